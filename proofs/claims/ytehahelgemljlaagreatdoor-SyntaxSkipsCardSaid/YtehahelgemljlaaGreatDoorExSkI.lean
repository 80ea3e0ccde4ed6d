/-
  SyntaxSkips, run by run: from 1 to 23 macroblocks.
-/
import Derived.Test.YtehahelgemljlaaGreatDoorExT
namespace Go.Proofs.YtehahelgemljlaaGreatDoor
open Go.RowKit
set_option maxRecDepth 1000000
theorem skips_0_false_true : skipsRun 0 false true = true := by kernel_rfl
theorem skips_1_false_true : skipsRun 1 false true = true := by kernel_rfl
theorem skips_2_false_true : skipsRun 2 false true = true := by kernel_rfl
theorem skips_3_false_true : skipsRun 3 false true = true := by kernel_rfl
theorem skips_4_false_true : skipsRun 4 false true = true := by kernel_rfl
theorem skips_5_false_true : skipsRun 5 false true = true := by kernel_rfl
theorem skips_6_false_true : skipsRun 6 false true = true := by kernel_rfl
theorem skips_7_false_true : skipsRun 7 false true = true := by kernel_rfl
theorem skips_8_false_true : skipsRun 8 false true = true := by kernel_rfl
theorem skips_9_false_true : skipsRun 9 false true = true := by kernel_rfl
theorem skips_10_false_true : skipsRun 10 false true = true := by kernel_rfl
theorem skips_11_false_true : skipsRun 11 false true = true := by kernel_rfl
theorem skips_12_false_true : skipsRun 12 false true = true := by kernel_rfl
theorem skips_13_false_true : skipsRun 13 false true = true := by kernel_rfl
theorem skips_14_false_true : skipsRun 14 false true = true := by kernel_rfl
theorem skips_15_false_true : skipsRun 15 false true = true := by kernel_rfl
theorem skips_16_false_true : skipsRun 16 false true = true := by kernel_rfl
theorem skips_17_false_true : skipsRun 17 false true = true := by kernel_rfl
theorem skips_18_false_true : skipsRun 18 false true = true := by kernel_rfl
theorem skips_19_false_true : skipsRun 19 false true = true := by kernel_rfl
theorem skips_20_false_true : skipsRun 20 false true = true := by kernel_rfl
theorem skips_21_false_true : skipsRun 21 false true = true := by kernel_rfl
theorem skips_22_false_true : skipsRun 22 false true = true := by kernel_rfl
end Go.Proofs.YtehahelgemljlaaGreatDoor
