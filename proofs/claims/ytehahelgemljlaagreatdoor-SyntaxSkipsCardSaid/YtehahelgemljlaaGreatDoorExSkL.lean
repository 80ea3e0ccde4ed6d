/-
  SyntaxSkips, run by run: from 24 to 32 macroblocks.
-/
import Derived.Test.YtehahelgemljlaaGreatDoorExT
namespace Go.Proofs.YtehahelgemljlaaGreatDoor
open Go.RowKit
set_option maxRecDepth 1000000
theorem skips_23_false_false : skipsRun 23 false false = true := by kernel_rfl
theorem skips_24_false_false : skipsRun 24 false false = true := by kernel_rfl
theorem skips_25_false_false : skipsRun 25 false false = true := by kernel_rfl
theorem skips_26_false_false : skipsRun 26 false false = true := by kernel_rfl
theorem skips_27_false_false : skipsRun 27 false false = true := by kernel_rfl
theorem skips_28_false_false : skipsRun 28 false false = true := by kernel_rfl
theorem skips_29_false_false : skipsRun 29 false false = true := by kernel_rfl
theorem skips_30_false_false : skipsRun 30 false false = true := by kernel_rfl
theorem skips_31_false_false : skipsRun 31 false false = true := by kernel_rfl
end Go.Proofs.YtehahelgemljlaaGreatDoor
