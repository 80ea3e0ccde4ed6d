/-
  SyntaxSkips, run by run: from 15 to 21 macroblocks.
-/
import Derived.Test.YtehahelgemljlaaGreatDoorExT
namespace Go.Proofs.YtehahelgemljlaaGreatDoor
open Go.RowKit
set_option maxRecDepth 1000000
theorem skips_14_true_false : skipsRun 14 true false = true := by kernel_rfl
theorem skips_15_true_false : skipsRun 15 true false = true := by kernel_rfl
theorem skips_16_true_false : skipsRun 16 true false = true := by kernel_rfl
theorem skips_17_true_false : skipsRun 17 true false = true := by kernel_rfl
theorem skips_18_true_false : skipsRun 18 true false = true := by kernel_rfl
theorem skips_19_true_false : skipsRun 19 true false = true := by kernel_rfl
theorem skips_20_true_false : skipsRun 20 true false = true := by kernel_rfl
end Go.Proofs.YtehahelgemljlaaGreatDoor
