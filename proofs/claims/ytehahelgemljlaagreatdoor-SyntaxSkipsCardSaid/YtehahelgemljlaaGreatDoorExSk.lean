/-
  SyntaxSkips: all its runs together.
-/
import Derived.Test.YtehahelgemljlaaGreatDoorExSkA
import Derived.Test.YtehahelgemljlaaGreatDoorExSkB
import Derived.Test.YtehahelgemljlaaGreatDoorExSkC
import Derived.Test.YtehahelgemljlaaGreatDoorExSkD
import Derived.Test.YtehahelgemljlaaGreatDoorExSkE
import Derived.Test.YtehahelgemljlaaGreatDoorExSkF
import Derived.Test.YtehahelgemljlaaGreatDoorExSkG
import Derived.Test.YtehahelgemljlaaGreatDoorExSkH
import Derived.Test.YtehahelgemljlaaGreatDoorExSkI
import Derived.Test.YtehahelgemljlaaGreatDoorExSkJ
import Derived.Test.YtehahelgemljlaaGreatDoorExSkK
import Derived.Test.YtehahelgemljlaaGreatDoorExSkL
namespace Go.Proofs.YtehahelgemljlaaGreatDoor
open Go.RowKit

theorem skips_true_true : ∀ r, r < 32 → skipsRun r true true = true
  | 0, _ => skips_0_true_true
  | 1, _ => skips_1_true_true
  | 2, _ => skips_2_true_true
  | 3, _ => skips_3_true_true
  | 4, _ => skips_4_true_true
  | 5, _ => skips_5_true_true
  | 6, _ => skips_6_true_true
  | 7, _ => skips_7_true_true
  | 8, _ => skips_8_true_true
  | 9, _ => skips_9_true_true
  | 10, _ => skips_10_true_true
  | 11, _ => skips_11_true_true
  | 12, _ => skips_12_true_true
  | 13, _ => skips_13_true_true
  | 14, _ => skips_14_true_true
  | 15, _ => skips_15_true_true
  | 16, _ => skips_16_true_true
  | 17, _ => skips_17_true_true
  | 18, _ => skips_18_true_true
  | 19, _ => skips_19_true_true
  | 20, _ => skips_20_true_true
  | 21, _ => skips_21_true_true
  | 22, _ => skips_22_true_true
  | 23, _ => skips_23_true_true
  | 24, _ => skips_24_true_true
  | 25, _ => skips_25_true_true
  | 26, _ => skips_26_true_true
  | 27, _ => skips_27_true_true
  | 28, _ => skips_28_true_true
  | 29, _ => skips_29_true_true
  | 30, _ => skips_30_true_true
  | 31, _ => skips_31_true_true
  | r + 32, h => by omega
theorem skips_true_false : ∀ r, r < 32 → skipsRun r true false = true
  | 0, _ => skips_0_true_false
  | 1, _ => skips_1_true_false
  | 2, _ => skips_2_true_false
  | 3, _ => skips_3_true_false
  | 4, _ => skips_4_true_false
  | 5, _ => skips_5_true_false
  | 6, _ => skips_6_true_false
  | 7, _ => skips_7_true_false
  | 8, _ => skips_8_true_false
  | 9, _ => skips_9_true_false
  | 10, _ => skips_10_true_false
  | 11, _ => skips_11_true_false
  | 12, _ => skips_12_true_false
  | 13, _ => skips_13_true_false
  | 14, _ => skips_14_true_false
  | 15, _ => skips_15_true_false
  | 16, _ => skips_16_true_false
  | 17, _ => skips_17_true_false
  | 18, _ => skips_18_true_false
  | 19, _ => skips_19_true_false
  | 20, _ => skips_20_true_false
  | 21, _ => skips_21_true_false
  | 22, _ => skips_22_true_false
  | 23, _ => skips_23_true_false
  | 24, _ => skips_24_true_false
  | 25, _ => skips_25_true_false
  | 26, _ => skips_26_true_false
  | 27, _ => skips_27_true_false
  | 28, _ => skips_28_true_false
  | 29, _ => skips_29_true_false
  | 30, _ => skips_30_true_false
  | 31, _ => skips_31_true_false
  | r + 32, h => by omega
theorem skips_false_true : ∀ r, r < 32 → skipsRun r false true = true
  | 0, _ => skips_0_false_true
  | 1, _ => skips_1_false_true
  | 2, _ => skips_2_false_true
  | 3, _ => skips_3_false_true
  | 4, _ => skips_4_false_true
  | 5, _ => skips_5_false_true
  | 6, _ => skips_6_false_true
  | 7, _ => skips_7_false_true
  | 8, _ => skips_8_false_true
  | 9, _ => skips_9_false_true
  | 10, _ => skips_10_false_true
  | 11, _ => skips_11_false_true
  | 12, _ => skips_12_false_true
  | 13, _ => skips_13_false_true
  | 14, _ => skips_14_false_true
  | 15, _ => skips_15_false_true
  | 16, _ => skips_16_false_true
  | 17, _ => skips_17_false_true
  | 18, _ => skips_18_false_true
  | 19, _ => skips_19_false_true
  | 20, _ => skips_20_false_true
  | 21, _ => skips_21_false_true
  | 22, _ => skips_22_false_true
  | 23, _ => skips_23_false_true
  | 24, _ => skips_24_false_true
  | 25, _ => skips_25_false_true
  | 26, _ => skips_26_false_true
  | 27, _ => skips_27_false_true
  | 28, _ => skips_28_false_true
  | 29, _ => skips_29_false_true
  | 30, _ => skips_30_false_true
  | 31, _ => skips_31_false_true
  | r + 32, h => by omega
theorem skips_false_false : ∀ r, r < 32 → skipsRun r false false = true
  | 0, _ => skips_0_false_false
  | 1, _ => skips_1_false_false
  | 2, _ => skips_2_false_false
  | 3, _ => skips_3_false_false
  | 4, _ => skips_4_false_false
  | 5, _ => skips_5_false_false
  | 6, _ => skips_6_false_false
  | 7, _ => skips_7_false_false
  | 8, _ => skips_8_false_false
  | 9, _ => skips_9_false_false
  | 10, _ => skips_10_false_false
  | 11, _ => skips_11_false_false
  | 12, _ => skips_12_false_false
  | 13, _ => skips_13_false_false
  | 14, _ => skips_14_false_false
  | 15, _ => skips_15_false_false
  | 16, _ => skips_16_false_false
  | 17, _ => skips_17_false_false
  | 18, _ => skips_18_false_false
  | 19, _ => skips_19_false_false
  | 20, _ => skips_20_false_false
  | 21, _ => skips_21_false_false
  | 22, _ => skips_22_false_false
  | 23, _ => skips_23_false_false
  | 24, _ => skips_24_false_false
  | 25, _ => skips_25_false_false
  | 26, _ => skips_26_false_false
  | 27, _ => skips_27_false_false
  | 28, _ => skips_28_false_false
  | 29, _ => skips_29_false_false
  | 30, _ => skips_30_false_false
  | 31, _ => skips_31_false_false
  | r + 32, h => by omega
theorem law_skips (a0 : Int) (a1 a2 : Bool) (W : World) (hL : laidMetH Tryz.prog laidL W) : Calls Tryz.prog 3 #[.int .i64 a0, .bool a1, .bool a2] W fun e w' => e = .returned (.bool true) ∧ Only [] W w' := by
  have h0 := Exec.bitsOf_le a0 (c := 31) (by decide)
  refine law_run (ρ := fun _ => a0) (H := Exec.hyT [Exec.andRow 0 31 (Exec.bitsOf a0 31)]) (args := [.int .i64 a0, .bool a1, .bool a2]) (Exec.hyT_ok ?_) (spec21_ok _) hL (.cons (Exec.VR.mkVar 0) (.cons (Exec.VR.mkB _ a1) (.cons (Exec.VR.mkB _ a2) .nil))) (by kernel_rfl) ?_
  · intro e he
    rw [List.mem_singleton.1 he]
    exact Exec.andRow_ok rfl
  · show skipsRun (Exec.bitsOf a0 31) a1 a2 = true
    cases a1 <;> cases a2
    · exact skips_false_false _ (by omega)
    · exact skips_false_true _ (by omega)
    · exact skips_true_false _ (by omega)
    · exact skips_true_true _ (by omega)
end Go.Proofs.YtehahelgemljlaaGreatDoor
