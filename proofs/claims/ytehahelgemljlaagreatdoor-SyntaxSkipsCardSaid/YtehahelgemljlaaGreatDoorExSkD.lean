/-
  SyntaxSkips, run by run: from 28 to 32 macroblocks.
-/
import Derived.Test.YtehahelgemljlaaGreatDoorExT
namespace Go.Proofs.YtehahelgemljlaaGreatDoor
open Go.RowKit
set_option maxRecDepth 1000000
theorem skips_27_true_true : skipsRun 27 true true = true := by kernel_rfl
theorem skips_28_true_true : skipsRun 28 true true = true := by kernel_rfl
theorem skips_29_true_true : skipsRun 29 true true = true := by kernel_rfl
theorem skips_30_true_true : skipsRun 30 true true = true := by kernel_rfl
theorem skips_31_true_true : skipsRun 31 true true = true := by kernel_rfl
end Go.Proofs.YtehahelgemljlaaGreatDoor
