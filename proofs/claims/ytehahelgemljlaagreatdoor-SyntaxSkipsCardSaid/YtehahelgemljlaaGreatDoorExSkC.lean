/-
  SyntaxSkips, run by run: from 22 to 27 macroblocks.
-/
import Derived.Test.YtehahelgemljlaaGreatDoorExT
namespace Go.Proofs.YtehahelgemljlaaGreatDoor
open Go.RowKit
set_option maxRecDepth 1000000
theorem skips_21_true_true : skipsRun 21 true true = true := by kernel_rfl
theorem skips_22_true_true : skipsRun 22 true true = true := by kernel_rfl
theorem skips_23_true_true : skipsRun 23 true true = true := by kernel_rfl
theorem skips_24_true_true : skipsRun 24 true true = true := by kernel_rfl
theorem skips_25_true_true : skipsRun 25 true true = true := by kernel_rfl
theorem skips_26_true_true : skipsRun 26 true true = true := by kernel_rfl
end Go.Proofs.YtehahelgemljlaaGreatDoor
