/-
  What the rows' list of package-level variables gives a walk; a world that meets the list.
-/
import Derived.Test.YtgmnkihldlajcaaGreatDoorCards
import Derived.Test.YtgmnkihldlajcaaGreatDoorTie
import Derived.Test.YtgmnkihldlajcaaGreatDoorEngA
import Derived.Deep.DeepHandedRow
import Derived.Deep.DeepWitnessRowRef
import Derived.Lib.LaidTab
import Derived.Stop.LaidErr
import Derived.MakeChecks
import Derived.Lay
namespace Go.Proofs.YtgmnkihldlajcaaGreatDoor
open Go.RowKit

theorem own : ownKnob Tryz.prog.godebug = none := by kernel_rfl
def laidL : List (String × DataW Unit) := [("unicode.White_Space", Rows.laid_unicode_White_Space), ("strings.asciiSpace", Rows.laid_strings_asciiSpace)]
theorem asc_datum : (Rows.laid_strings_asciiSpace : DataW Unit) = Lib.tabData .u8 Lib.asciiSpaceTab := by kernel_rfl
theorem laid_asc {W : World} (h : laidMetH Tryz.prog laidL W) : Asc W := by
  rw [MakeChecks.laidMetH_plain _ _ _ (by kernel_rfl)] at h
  have h2 := laidMet.tail h
  rw [asc_datum] at h2
  exact Lib.tabIs_of_head (rest := []) (t := 111) (e := 5) (n := 256) asc_named (by kernel_rfl) (by kernel_rfl) Tryz.underlying5 (by kernel_rfl) (by kernel_rfl) h2
noncomputable def laidWorld (os : Os) : World := World.laidAll Tryz.prog os laidL
theorem laid_met (os : Os) (args : Array Value) : laidMet Tryz.prog laidL ((laidWorld os).forCall (fun _ _ => 0) ⟨#[], args, []⟩).memory :=
  laidMet_laidAll _ (by kernel_rfl) (by kernel_rfl)
end Go.Proofs.YtgmnkihldlajcaaGreatDoor
