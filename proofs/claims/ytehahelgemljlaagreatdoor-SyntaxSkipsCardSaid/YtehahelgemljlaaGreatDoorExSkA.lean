/-
  SyntaxSkips, run by run: from 1 to 14 macroblocks.
-/
import Derived.Test.YtehahelgemljlaaGreatDoorExT
namespace Go.Proofs.YtehahelgemljlaaGreatDoor
open Go.RowKit
set_option maxRecDepth 1000000
theorem skips_0_true_true : skipsRun 0 true true = true := by kernel_rfl
theorem skips_1_true_true : skipsRun 1 true true = true := by kernel_rfl
theorem skips_2_true_true : skipsRun 2 true true = true := by kernel_rfl
theorem skips_3_true_true : skipsRun 3 true true = true := by kernel_rfl
theorem skips_4_true_true : skipsRun 4 true true = true := by kernel_rfl
theorem skips_5_true_true : skipsRun 5 true true = true := by kernel_rfl
theorem skips_6_true_true : skipsRun 6 true true = true := by kernel_rfl
theorem skips_7_true_true : skipsRun 7 true true = true := by kernel_rfl
theorem skips_8_true_true : skipsRun 8 true true = true := by kernel_rfl
theorem skips_9_true_true : skipsRun 9 true true = true := by kernel_rfl
theorem skips_10_true_true : skipsRun 10 true true = true := by kernel_rfl
theorem skips_11_true_true : skipsRun 11 true true = true := by kernel_rfl
theorem skips_12_true_true : skipsRun 12 true true = true := by kernel_rfl
theorem skips_13_true_true : skipsRun 13 true true = true := by kernel_rfl
end Go.Proofs.YtehahelgemljlaaGreatDoor
