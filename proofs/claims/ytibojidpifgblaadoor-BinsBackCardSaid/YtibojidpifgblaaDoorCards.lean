/-
  DERIVED. GIVEN WITH THE SEED: THE CARDS: each row of YtibojidpifgblaaDoorRows.lean that lists a variable, with what it lists TIED to the program's text (the seventh form; the later family's looks); each row that meets fmt, with fmt's text TOLD by the authors' own Lean function (tested against real Go, not proved from fmt's source: count such statements apart). THE CARD IS WHAT COUNTS. Prove the row's statement (the work); the ties are given (YtibojidpifgblaaDoorTie.lean); close each card by the builder's one call (the guide's Derived/Test/ToyasCard.lean, 'card_holds'). Laid BY PROGRAM, IN A SANDBOX (cutbox-door.mjs). By AI agents, Wed Nov 11 2026. No macro, syntax, notation, axiom, sorry.
-/
import Derived.Test.YtibojidpifgblaaDoorRows
import GoSem.ClaimSeven
namespace Go.Proofs.YtibojidpifgblaaDoor
namespace Rows

/-- THE TIED CARD OF 'zoetropelaw5.EngineTables'. -/
def engineTablesCard : Claim7 := { stood := { row := engineTablesRow, standIns := [], harness := (true, "1f18e85d2182cb6affbe97e725daec80d84ff1ca0406e96863d1706a19f22ac1"), looks := true }, kinds := [], alts := [], laidByText := true, laidKinds := [.listed, .data], laidTests := true, laidLooks := .later }
def EngineTablesCardSaid : Prop := Claim7.holds Tryd.pinned (.plain (OpenSpec.ofChange engineTablesSpec)) engineTablesCard

/-- THE TIED CARD OF 'zoetropelaw5.EngineLikely'. -/
def engineLikelyCard : Claim7 := { stood := { row := engineLikelyRow, standIns := [], harness := (true, "1f18e85d2182cb6affbe97e725daec80d84ff1ca0406e96863d1706a19f22ac1"), looks := true }, kinds := [], alts := [], laidByText := true, laidKinds := [.listed, .data], laidTests := true, laidLooks := .later }
def EngineLikelyCardSaid : Prop := Claim7.holds Tryd.pinned (.plain (OpenSpec.ofChange engineLikelySpec)) engineLikelyCard

/-- THE TIED CARD OF 'zoetropelaw5.EngineEncodes'. -/
def engineEncodesCard : Claim7 := { stood := { row := engineEncodesRow, standIns := [], harness := (true, "1f18e85d2182cb6affbe97e725daec80d84ff1ca0406e96863d1706a19f22ac1"), looks := true }, kinds := [], alts := [], laidByText := true, laidKinds := [.listed, .data], laidTests := true, laidLooks := .later }
def EngineEncodesCardSaid : Prop := Claim7.holds Tryd.pinned (.plain (OpenSpec.ofChange engineEncodesSpec)) engineEncodesCard

/-- THE TIED CARD OF 'zoetropelaw5.EngineBypass'. -/
def engineBypassCard : Claim7 := { stood := { row := engineBypassRow, standIns := [], harness := (true, "1f18e85d2182cb6affbe97e725daec80d84ff1ca0406e96863d1706a19f22ac1"), looks := true }, kinds := [], alts := [], laidByText := true, laidKinds := [.listed, .data], laidTests := true, laidLooks := .later }
def EngineBypassCardSaid : Prop := Claim7.holds Tryd.pinned (.plain (OpenSpec.ofChange engineBypassSpec)) engineBypassCard

/-- THE TIED CARD OF 'zoetropelaw5.EngineOver'. -/
def engineOverCard : Claim7 := { stood := { row := engineOverRow, standIns := [], harness := (true, "1f18e85d2182cb6affbe97e725daec80d84ff1ca0406e96863d1706a19f22ac1"), looks := true }, kinds := [], alts := [], laidByText := true, laidKinds := [.listed, .data], laidTests := true, laidLooks := .later }
def EngineOverCardSaid : Prop := Claim7.holds Tryd.pinned (.plain (OpenSpec.ofChange engineOverSpec)) engineOverCard

/-- THE TIED CARD OF 'zoetropelaw6.BinsPuts'. -/
def binsPutsCard : Claim7 := { stood := { row := binsPutsRow, standIns := [], harness := (true, "1f18e85d2182cb6affbe97e725daec80d84ff1ca0406e96863d1706a19f22ac1"), looks := true }, kinds := [], alts := [], laidByText := true, laidKinds := [.listed, .data], laidTests := true, laidLooks := .later }
def BinsPutsCardSaid : Prop := Claim7.holds Tryd.pinned (.plain (OpenSpec.ofChange binsPutsSpec)) binsPutsCard

/-- THE TIED CARD OF 'zoetropelaw5.EngineEnds'. -/
def engineEndsCard : Claim7 := { stood := { row := engineEndsRow, standIns := [], harness := (true, "1f18e85d2182cb6affbe97e725daec80d84ff1ca0406e96863d1706a19f22ac1"), looks := true }, kinds := [], alts := [], laidByText := true, laidKinds := [.listed, .data], laidTests := true, laidLooks := .later }
def EngineEndsCardSaid : Prop := Claim7.holds Tryd.pinned (.plain (OpenSpec.ofChange engineEndsSpec)) engineEndsCard

/-- THE TIED CARD OF 'zoetropelaw5.EngineBack'. -/
def engineBackCard : Claim7 := { stood := { row := engineBackRow, standIns := [], harness := (true, "1f18e85d2182cb6affbe97e725daec80d84ff1ca0406e96863d1706a19f22ac1"), looks := true }, kinds := [], alts := [], laidByText := true, laidKinds := [.listed, .data], laidTests := true, laidLooks := .later }
def EngineBackCardSaid : Prop := Claim7.holds Tryd.pinned (.plain (OpenSpec.ofChange engineBackSpec)) engineBackCard

/-- THE TIED CARD OF 'zoetropelaw6.BinsBack'. -/
def binsBackCard : Claim7 := { stood := { row := binsBackRow, standIns := [], harness := (true, "1f18e85d2182cb6affbe97e725daec80d84ff1ca0406e96863d1706a19f22ac1"), looks := true }, kinds := [], alts := [], laidByText := true, laidKinds := [.listed, .data], laidTests := true, laidLooks := .later }
def BinsBackCardSaid : Prop := Claim7.holds Tryd.pinned (.plain (OpenSpec.ofChange binsBackSpec)) binsBackCard

/-- THE SECOND FORM's CARD OF 'zoetropelaw5.EngineTables'. -/
def engineTablesUptoCard : Claim7 := { stood := { row := engineTablesUptoRow, standIns := [], harness := (true, "1f18e85d2182cb6affbe97e725daec80d84ff1ca0406e96863d1706a19f22ac1"), looks := true }, kinds := [], alts := [], laidByText := true, laidKinds := [.listed, .data], laidTests := true, laidLooks := .later }
def EngineTablesUptoCardSaid : Prop := Claim7.holds Tryd.pinned (.plain (OpenSpec.upto engineTablesSpec)) engineTablesUptoCard

/-- THE SECOND FORM's CARD OF 'zoetropelaw5.EngineLikely'. -/
def engineLikelyUptoCard : Claim7 := { stood := { row := engineLikelyUptoRow, standIns := [], harness := (true, "1f18e85d2182cb6affbe97e725daec80d84ff1ca0406e96863d1706a19f22ac1"), looks := true }, kinds := [], alts := [], laidByText := true, laidKinds := [.listed, .data], laidTests := true, laidLooks := .later }
def EngineLikelyUptoCardSaid : Prop := Claim7.holds Tryd.pinned (.plain (OpenSpec.upto engineLikelySpec)) engineLikelyUptoCard

/-- THE SECOND FORM's CARD OF 'zoetropelaw5.EngineEncodes'. -/
def engineEncodesUptoCard : Claim7 := { stood := { row := engineEncodesUptoRow, standIns := [], harness := (true, "1f18e85d2182cb6affbe97e725daec80d84ff1ca0406e96863d1706a19f22ac1"), looks := true }, kinds := [], alts := [], laidByText := true, laidKinds := [.listed, .data], laidTests := true, laidLooks := .later }
def EngineEncodesUptoCardSaid : Prop := Claim7.holds Tryd.pinned (.plain (OpenSpec.upto engineEncodesSpec)) engineEncodesUptoCard

/-- THE SECOND FORM's CARD OF 'zoetropelaw5.EngineBypass'. -/
def engineBypassUptoCard : Claim7 := { stood := { row := engineBypassUptoRow, standIns := [], harness := (true, "1f18e85d2182cb6affbe97e725daec80d84ff1ca0406e96863d1706a19f22ac1"), looks := true }, kinds := [], alts := [], laidByText := true, laidKinds := [.listed, .data], laidTests := true, laidLooks := .later }
def EngineBypassUptoCardSaid : Prop := Claim7.holds Tryd.pinned (.plain (OpenSpec.upto engineBypassSpec)) engineBypassUptoCard

/-- THE SECOND FORM's CARD OF 'zoetropelaw5.EngineOver'. -/
def engineOverUptoCard : Claim7 := { stood := { row := engineOverUptoRow, standIns := [], harness := (true, "1f18e85d2182cb6affbe97e725daec80d84ff1ca0406e96863d1706a19f22ac1"), looks := true }, kinds := [], alts := [], laidByText := true, laidKinds := [.listed, .data], laidTests := true, laidLooks := .later }
def EngineOverUptoCardSaid : Prop := Claim7.holds Tryd.pinned (.plain (OpenSpec.upto engineOverSpec)) engineOverUptoCard

/-- THE SECOND FORM's CARD OF 'zoetropelaw6.BinsPuts'. -/
def binsPutsUptoCard : Claim7 := { stood := { row := binsPutsUptoRow, standIns := [], harness := (true, "1f18e85d2182cb6affbe97e725daec80d84ff1ca0406e96863d1706a19f22ac1"), looks := true }, kinds := [], alts := [], laidByText := true, laidKinds := [.listed, .data], laidTests := true, laidLooks := .later }
def BinsPutsUptoCardSaid : Prop := Claim7.holds Tryd.pinned (.plain (OpenSpec.upto binsPutsSpec)) binsPutsUptoCard

/-- THE SECOND FORM's CARD OF 'zoetropelaw5.EngineEnds'. -/
def engineEndsUptoCard : Claim7 := { stood := { row := engineEndsUptoRow, standIns := [], harness := (true, "1f18e85d2182cb6affbe97e725daec80d84ff1ca0406e96863d1706a19f22ac1"), looks := true }, kinds := [], alts := [], laidByText := true, laidKinds := [.listed, .data], laidTests := true, laidLooks := .later }
def EngineEndsUptoCardSaid : Prop := Claim7.holds Tryd.pinned (.plain (OpenSpec.upto engineEndsSpec)) engineEndsUptoCard

/-- THE SECOND FORM's CARD OF 'zoetropelaw5.EngineBack'. -/
def engineBackUptoCard : Claim7 := { stood := { row := engineBackUptoRow, standIns := [], harness := (true, "1f18e85d2182cb6affbe97e725daec80d84ff1ca0406e96863d1706a19f22ac1"), looks := true }, kinds := [], alts := [], laidByText := true, laidKinds := [.listed, .data], laidTests := true, laidLooks := .later }
def EngineBackUptoCardSaid : Prop := Claim7.holds Tryd.pinned (.plain (OpenSpec.upto engineBackSpec)) engineBackUptoCard

/-- THE SECOND FORM's CARD OF 'zoetropelaw6.BinsBack'. -/
def binsBackUptoCard : Claim7 := { stood := { row := binsBackUptoRow, standIns := [], harness := (true, "1f18e85d2182cb6affbe97e725daec80d84ff1ca0406e96863d1706a19f22ac1"), looks := true }, kinds := [], alts := [], laidByText := true, laidKinds := [.listed, .data], laidTests := true, laidLooks := .later }
def BinsBackUptoCardSaid : Prop := Claim7.holds Tryd.pinned (.plain (OpenSpec.upto binsBackSpec)) binsBackUptoCard
end Rows
end Go.Proofs.YtibojidpifgblaaDoor
