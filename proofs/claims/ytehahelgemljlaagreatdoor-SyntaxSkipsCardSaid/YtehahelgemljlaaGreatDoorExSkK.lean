/-
  SyntaxSkips, run by run: from 1 to 23 macroblocks.
-/
import Derived.Test.YtehahelgemljlaaGreatDoorExT
namespace Go.Proofs.YtehahelgemljlaaGreatDoor
open Go.RowKit
set_option maxRecDepth 1000000
theorem skips_0_false_false : skipsRun 0 false false = true := by kernel_rfl
theorem skips_1_false_false : skipsRun 1 false false = true := by kernel_rfl
theorem skips_2_false_false : skipsRun 2 false false = true := by kernel_rfl
theorem skips_3_false_false : skipsRun 3 false false = true := by kernel_rfl
theorem skips_4_false_false : skipsRun 4 false false = true := by kernel_rfl
theorem skips_5_false_false : skipsRun 5 false false = true := by kernel_rfl
theorem skips_6_false_false : skipsRun 6 false false = true := by kernel_rfl
theorem skips_7_false_false : skipsRun 7 false false = true := by kernel_rfl
theorem skips_8_false_false : skipsRun 8 false false = true := by kernel_rfl
theorem skips_9_false_false : skipsRun 9 false false = true := by kernel_rfl
theorem skips_10_false_false : skipsRun 10 false false = true := by kernel_rfl
theorem skips_11_false_false : skipsRun 11 false false = true := by kernel_rfl
theorem skips_12_false_false : skipsRun 12 false false = true := by kernel_rfl
theorem skips_13_false_false : skipsRun 13 false false = true := by kernel_rfl
theorem skips_14_false_false : skipsRun 14 false false = true := by kernel_rfl
theorem skips_15_false_false : skipsRun 15 false false = true := by kernel_rfl
theorem skips_16_false_false : skipsRun 16 false false = true := by kernel_rfl
theorem skips_17_false_false : skipsRun 17 false false = true := by kernel_rfl
theorem skips_18_false_false : skipsRun 18 false false = true := by kernel_rfl
theorem skips_19_false_false : skipsRun 19 false false = true := by kernel_rfl
theorem skips_20_false_false : skipsRun 20 false false = true := by kernel_rfl
theorem skips_21_false_false : skipsRun 21 false false = true := by kernel_rfl
theorem skips_22_false_false : skipsRun 22 false false = true := by kernel_rfl
end Go.Proofs.YtehahelgemljlaaGreatDoor
