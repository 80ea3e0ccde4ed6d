/-
  SyntaxFar: runs of what is taken.
-/
import Derived.Test.YtehahelgemljlaaGreatDoorExU
namespace Go.Proofs.YtehahelgemljlaaGreatDoor
open Go.RowKit
set_option maxRecDepth 1000000
theorem farP_3_2 : farP 3 2 = true := by kernel_rfl
theorem farP_3_3 : farP 3 3 = true := by kernel_rfl
theorem farP_3_4 : farP 3 4 = true := by kernel_rfl
theorem farP_3_5 : farP 3 5 = true := by kernel_rfl
theorem farP_3_6 : farP 3 6 = true := by kernel_rfl
theorem farP_3_7 : farP 3 7 = true := by kernel_rfl
theorem farP_3_8 : farP 3 8 = true := by kernel_rfl
theorem farP_3_9 : farP 3 9 = true := by kernel_rfl
theorem farP_3_10 : farP 3 10 = true := by kernel_rfl
theorem farP_4_2 : farP 4 2 = true := by kernel_rfl
theorem farP_4_3 : farP 4 3 = true := by kernel_rfl
theorem farP_4_4 : farP 4 4 = true := by kernel_rfl
theorem farP_4_5 : farP 4 5 = true := by kernel_rfl
theorem farP_4_6 : farP 4 6 = true := by kernel_rfl
theorem farP_4_7 : farP 4 7 = true := by kernel_rfl
theorem farP_4_8 : farP 4 8 = true := by kernel_rfl
theorem farP_4_9 : farP 4 9 = true := by kernel_rfl
theorem farP_4_10 : farP 4 10 = true := by kernel_rfl
theorem farN_3_1 : farN 3 1 = true := by kernel_rfl
theorem farN_3_2 : farN 3 2 = true := by kernel_rfl
theorem farN_3_3 : farN 3 3 = true := by kernel_rfl
theorem farN_3_4 : farN 3 4 = true := by kernel_rfl
theorem farN_3_5 : farN 3 5 = true := by kernel_rfl
theorem farN_3_6 : farN 3 6 = true := by kernel_rfl
theorem farN_3_7 : farN 3 7 = true := by kernel_rfl
theorem farN_3_8 : farN 3 8 = true := by kernel_rfl
theorem farN_3_9 : farN 3 9 = true := by kernel_rfl
theorem farN_3_10 : farN 3 10 = true := by kernel_rfl
theorem farN_4_1 : farN 4 1 = true := by kernel_rfl
theorem farN_4_2 : farN 4 2 = true := by kernel_rfl
theorem farN_4_3 : farN 4 3 = true := by kernel_rfl
theorem farN_4_4 : farN 4 4 = true := by kernel_rfl
theorem farN_4_5 : farN 4 5 = true := by kernel_rfl
theorem farN_4_6 : farN 4 6 = true := by kernel_rfl
theorem farN_4_7 : farN 4 7 = true := by kernel_rfl
theorem farN_4_8 : farN 4 8 = true := by kernel_rfl
theorem farN_4_9 : farN 4 9 = true := by kernel_rfl
theorem farN_4_10 : farN 4 10 = true := by kernel_rfl
end Go.Proofs.YtehahelgemljlaaGreatDoor
