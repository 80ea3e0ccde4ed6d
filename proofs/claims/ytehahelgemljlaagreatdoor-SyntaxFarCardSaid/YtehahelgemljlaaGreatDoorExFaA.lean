/-
  SyntaxFar: runs of what is refused (a vector too far below).
-/
import Derived.Test.YtehahelgemljlaaGreatDoorExU
namespace Go.Proofs.YtehahelgemljlaaGreatDoor
open Go.RowKit
set_option maxRecDepth 1000000
theorem far_0_0_0 : farNo 0 0 false true = true := by kernel_rfl
theorem far_0_0_1 : farNo 0 1 false true = true := by kernel_rfl
theorem far_0_0_2 : farNo 0 2 false true = true := by kernel_rfl
theorem far_0_0_3 : farNo 0 3 false true = true := by kernel_rfl
theorem far_0_0_4 : farNo 0 4 false true = true := by kernel_rfl
theorem far_0_0_5 : farNo 0 5 false true = true := by kernel_rfl
theorem far_0_0_6 : farNo 0 6 false true = true := by kernel_rfl
theorem far_0_1_0 : farNo 1 0 false true = true := by kernel_rfl
theorem far_0_1_1 : farNo 1 1 false true = true := by kernel_rfl
theorem far_0_1_2 : farNo 1 2 false true = true := by kernel_rfl
theorem far_0_1_3 : farNo 1 3 false true = true := by kernel_rfl
theorem far_0_1_4 : farNo 1 4 false true = true := by kernel_rfl
theorem far_0_1_5 : farNo 1 5 false true = true := by kernel_rfl
theorem far_0_1_6 : farNo 1 6 false true = true := by kernel_rfl
theorem far_0_2_0 : farNo 2 0 false true = true := by kernel_rfl
theorem far_0_2_1 : farNo 2 1 false true = true := by kernel_rfl
theorem far_0_2_2 : farNo 2 2 false true = true := by kernel_rfl
theorem far_0_2_3 : farNo 2 3 false true = true := by kernel_rfl
theorem far_0_2_4 : farNo 2 4 false true = true := by kernel_rfl
theorem far_0_2_5 : farNo 2 5 false true = true := by kernel_rfl
theorem far_0_2_6 : farNo 2 6 false true = true := by kernel_rfl
theorem far_0_3_0 : farNo 3 0 false true = true := by kernel_rfl
theorem far_0_3_1 : farNo 3 1 false true = true := by kernel_rfl
theorem far_0_3_2 : farNo 3 2 false true = true := by kernel_rfl
theorem far_0_3_3 : farNo 3 3 false true = true := by kernel_rfl
theorem far_0_3_4 : farNo 3 4 false true = true := by kernel_rfl
theorem far_0_3_5 : farNo 3 5 false true = true := by kernel_rfl
theorem far_0_3_6 : farNo 3 6 false true = true := by kernel_rfl
theorem far_0_4_0 : farNo 4 0 false true = true := by kernel_rfl
theorem far_0_4_1 : farNo 4 1 false true = true := by kernel_rfl
theorem far_0_4_2 : farNo 4 2 false true = true := by kernel_rfl
theorem far_0_4_3 : farNo 4 3 false true = true := by kernel_rfl
theorem far_0_4_4 : farNo 4 4 false true = true := by kernel_rfl
theorem far_0_4_5 : farNo 4 5 false true = true := by kernel_rfl
theorem far_0_4_6 : farNo 4 6 false true = true := by kernel_rfl
theorem far_0_5_0 : farNo 5 0 false true = true := by kernel_rfl
theorem far_0_5_1 : farNo 5 1 false true = true := by kernel_rfl
theorem far_0_5_2 : farNo 5 2 false true = true := by kernel_rfl
theorem far_0_5_3 : farNo 5 3 false true = true := by kernel_rfl
theorem far_0_5_4 : farNo 5 4 false true = true := by kernel_rfl
theorem far_0_5_5 : farNo 5 5 false true = true := by kernel_rfl
theorem far_0_5_6 : farNo 5 6 false true = true := by kernel_rfl
theorem far_0_6_0 : farNo 6 0 false true = true := by kernel_rfl
theorem far_0_6_1 : farNo 6 1 false true = true := by kernel_rfl
theorem far_0_6_2 : farNo 6 2 false true = true := by kernel_rfl
theorem far_0_6_3 : farNo 6 3 false true = true := by kernel_rfl
theorem far_0_6_4 : farNo 6 4 false true = true := by kernel_rfl
theorem far_0_6_5 : farNo 6 5 false true = true := by kernel_rfl
theorem far_0_6_6 : farNo 6 6 false true = true := by kernel_rfl
end Go.Proofs.YtehahelgemljlaaGreatDoor
