/-
  SyntaxSkips, run by run: from 15 to 21 macroblocks.
-/
import Derived.Test.YtehahelgemljlaaGreatDoorExT
namespace Go.Proofs.YtehahelgemljlaaGreatDoor
open Go.RowKit
set_option maxRecDepth 1000000
theorem skips_14_true_true : skipsRun 14 true true = true := by kernel_rfl
theorem skips_15_true_true : skipsRun 15 true true = true := by kernel_rfl
theorem skips_16_true_true : skipsRun 16 true true = true := by kernel_rfl
theorem skips_17_true_true : skipsRun 17 true true = true := by kernel_rfl
theorem skips_18_true_true : skipsRun 18 true true = true := by kernel_rfl
theorem skips_19_true_true : skipsRun 19 true true = true := by kernel_rfl
theorem skips_20_true_true : skipsRun 20 true true = true := by kernel_rfl
end Go.Proofs.YtehahelgemljlaaGreatDoor
