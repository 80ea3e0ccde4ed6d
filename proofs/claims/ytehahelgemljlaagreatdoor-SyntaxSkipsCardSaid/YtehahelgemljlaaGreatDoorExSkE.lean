/-
  SyntaxSkips, run by run: from 1 to 14 macroblocks.
-/
import Derived.Test.YtehahelgemljlaaGreatDoorExT
namespace Go.Proofs.YtehahelgemljlaaGreatDoor
open Go.RowKit
set_option maxRecDepth 1000000
theorem skips_0_true_false : skipsRun 0 true false = true := by kernel_rfl
theorem skips_1_true_false : skipsRun 1 true false = true := by kernel_rfl
theorem skips_2_true_false : skipsRun 2 true false = true := by kernel_rfl
theorem skips_3_true_false : skipsRun 3 true false = true := by kernel_rfl
theorem skips_4_true_false : skipsRun 4 true false = true := by kernel_rfl
theorem skips_5_true_false : skipsRun 5 true false = true := by kernel_rfl
theorem skips_6_true_false : skipsRun 6 true false = true := by kernel_rfl
theorem skips_7_true_false : skipsRun 7 true false = true := by kernel_rfl
theorem skips_8_true_false : skipsRun 8 true false = true := by kernel_rfl
theorem skips_9_true_false : skipsRun 9 true false = true := by kernel_rfl
theorem skips_10_true_false : skipsRun 10 true false = true := by kernel_rfl
theorem skips_11_true_false : skipsRun 11 true false = true := by kernel_rfl
theorem skips_12_true_false : skipsRun 12 true false = true := by kernel_rfl
theorem skips_13_true_false : skipsRun 13 true false = true := by kernel_rfl
end Go.Proofs.YtehahelgemljlaaGreatDoor
