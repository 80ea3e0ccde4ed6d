/-
  SyntaxSkips, run by run: from 24 to 32 macroblocks.
-/
import Derived.Test.YtehahelgemljlaaGreatDoorExT
namespace Go.Proofs.YtehahelgemljlaaGreatDoor
open Go.RowKit
set_option maxRecDepth 1000000
theorem skips_23_false_true : skipsRun 23 false true = true := by kernel_rfl
theorem skips_24_false_true : skipsRun 24 false true = true := by kernel_rfl
theorem skips_25_false_true : skipsRun 25 false true = true := by kernel_rfl
theorem skips_26_false_true : skipsRun 26 false true = true := by kernel_rfl
theorem skips_27_false_true : skipsRun 27 false true = true := by kernel_rfl
theorem skips_28_false_true : skipsRun 28 false true = true := by kernel_rfl
theorem skips_29_false_true : skipsRun 29 false true = true := by kernel_rfl
theorem skips_30_false_true : skipsRun 30 false true = true := by kernel_rfl
theorem skips_31_false_true : skipsRun 31 false true = true := by kernel_rfl
end Go.Proofs.YtehahelgemljlaaGreatDoor
