/-
  SyntaxSkips, run by run: from 22 to 27 macroblocks.
-/
import Derived.Test.YtehahelgemljlaaGreatDoorExT
namespace Go.Proofs.YtehahelgemljlaaGreatDoor
open Go.RowKit
set_option maxRecDepth 1000000
theorem skips_21_true_false : skipsRun 21 true false = true := by kernel_rfl
theorem skips_22_true_false : skipsRun 22 true false = true := by kernel_rfl
theorem skips_23_true_false : skipsRun 23 true false = true := by kernel_rfl
theorem skips_24_true_false : skipsRun 24 true false = true := by kernel_rfl
theorem skips_25_true_false : skipsRun 25 true false = true := by kernel_rfl
theorem skips_26_true_false : skipsRun 26 true false = true := by kernel_rfl
end Go.Proofs.YtehahelgemljlaaGreatDoor
