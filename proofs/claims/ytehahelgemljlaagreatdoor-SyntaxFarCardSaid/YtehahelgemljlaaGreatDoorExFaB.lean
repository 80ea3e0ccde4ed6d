/-
  SyntaxFar: runs of what is refused (a vector within its limits).
-/
import Derived.Test.YtehahelgemljlaaGreatDoorExU
namespace Go.Proofs.YtehahelgemljlaaGreatDoor
open Go.RowKit
set_option maxRecDepth 1000000
theorem far_1_0_0 : farNo 0 0 true true = true := by kernel_rfl
theorem far_1_0_1 : farNo 0 1 true true = true := by kernel_rfl
theorem far_1_0_2 : farNo 0 2 true true = true := by kernel_rfl
theorem far_1_0_3 : farNo 0 3 true true = true := by kernel_rfl
theorem far_1_0_4 : farNo 0 4 true true = true := by kernel_rfl
theorem far_1_0_5 : farNo 0 5 true true = true := by kernel_rfl
theorem far_1_0_6 : farNo 0 6 true true = true := by kernel_rfl
theorem far_1_1_0 : farNo 1 0 true true = true := by kernel_rfl
theorem far_1_1_1 : farNo 1 1 true true = true := by kernel_rfl
theorem far_1_1_2 : farNo 1 2 true true = true := by kernel_rfl
theorem far_1_1_3 : farNo 1 3 true true = true := by kernel_rfl
theorem far_1_1_4 : farNo 1 4 true true = true := by kernel_rfl
theorem far_1_1_5 : farNo 1 5 true true = true := by kernel_rfl
theorem far_1_1_6 : farNo 1 6 true true = true := by kernel_rfl
theorem far_1_2_0 : farNo 2 0 true true = true := by kernel_rfl
theorem far_1_2_1 : farNo 2 1 true true = true := by kernel_rfl
theorem far_1_2_2 : farNo 2 2 true true = true := by kernel_rfl
theorem far_1_2_3 : farNo 2 3 true true = true := by kernel_rfl
theorem far_1_2_4 : farNo 2 4 true true = true := by kernel_rfl
theorem far_1_2_5 : farNo 2 5 true true = true := by kernel_rfl
theorem far_1_2_6 : farNo 2 6 true true = true := by kernel_rfl
theorem far_1_3_0 : farNo 3 0 true true = true := by kernel_rfl
theorem far_1_3_1 : farNo 3 1 true true = true := by kernel_rfl
theorem far_1_3_2 : farNo 3 2 true true = true := by kernel_rfl
theorem far_1_3_4 : farNo 3 4 true true = true := by kernel_rfl
theorem far_1_3_5 : farNo 3 5 true true = true := by kernel_rfl
theorem far_1_3_6 : farNo 3 6 true true = true := by kernel_rfl
theorem far_1_4_0 : farNo 4 0 true true = true := by kernel_rfl
theorem far_1_4_1 : farNo 4 1 true true = true := by kernel_rfl
theorem far_1_4_2 : farNo 4 2 true true = true := by kernel_rfl
theorem far_1_4_4 : farNo 4 4 true true = true := by kernel_rfl
theorem far_1_4_5 : farNo 4 5 true true = true := by kernel_rfl
theorem far_1_4_6 : farNo 4 6 true true = true := by kernel_rfl
theorem far_1_5_0 : farNo 5 0 true true = true := by kernel_rfl
theorem far_1_5_1 : farNo 5 1 true true = true := by kernel_rfl
theorem far_1_5_2 : farNo 5 2 true true = true := by kernel_rfl
theorem far_1_5_3 : farNo 5 3 true true = true := by kernel_rfl
theorem far_1_5_4 : farNo 5 4 true true = true := by kernel_rfl
theorem far_1_5_5 : farNo 5 5 true true = true := by kernel_rfl
theorem far_1_5_6 : farNo 5 6 true true = true := by kernel_rfl
theorem far_1_6_0 : farNo 6 0 true true = true := by kernel_rfl
theorem far_1_6_1 : farNo 6 1 true true = true := by kernel_rfl
theorem far_1_6_2 : farNo 6 2 true true = true := by kernel_rfl
theorem far_1_6_3 : farNo 6 3 true true = true := by kernel_rfl
theorem far_1_6_4 : farNo 6 4 true true = true := by kernel_rfl
theorem far_1_6_5 : farNo 6 5 true true = true := by kernel_rfl
theorem far_1_6_6 : farNo 6 6 true true = true := by kernel_rfl
end Go.Proofs.YtehahelgemljlaaGreatDoor
