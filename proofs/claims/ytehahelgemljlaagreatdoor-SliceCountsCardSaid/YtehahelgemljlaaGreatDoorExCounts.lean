/-
  SliceCounts: the law's runs, one for each count and each number of macroblocks.
-/
import Derived.Test.YtehahelgemljlaaGreatDoorExM
namespace Go.Proofs.YtehahelgemljlaaGreatDoor
open Go.RowKit

set_option maxRecDepth 1000000
theorem awake23_run : Exec.okMemo startS [0] Exec.vT (runW Exec.hy0 specM 13 [] startS) = true := by kernel_rfl
theorem awake23_memo (ρ : Nat → Int) : Exec.Memo Tryz.prog ρ startS [0] 13 [] Exec.vT := memo_run ρ (specM_ok ρ) awake23_run
noncomputable def spec23 : Nat → Option Exec.FnC := Exec.specAdd 13 (memoS [([], Exec.vT)]) specM
theorem spec23_ok (ρ : Nat → Int) : Exec.SpecOk Tryz.prog ρ spec23 := Exec.specAdd_ok (memoS_one fun e he => by rw [List.mem_singleton.1 he]; exact awake23_memo ρ) (specM_ok ρ)
noncomputable def countsRun (r q : Nat) : Bool := Exec.okTrue (runW (Exec.hyT [Exec.andRow 0 3 r, Exec.andRow 1 7 q]) spec23 5 [Exec.mkVar 0, Exec.mkVar 1] startS)
theorem counts_0_0 : countsRun 0 0 = true := by kernel_rfl
theorem counts_0_1 : countsRun 0 1 = true := by kernel_rfl
theorem counts_0_2 : countsRun 0 2 = true := by kernel_rfl
theorem counts_0_3 : countsRun 0 3 = true := by kernel_rfl
theorem counts_0_4 : countsRun 0 4 = true := by kernel_rfl
theorem counts_0_5 : countsRun 0 5 = true := by kernel_rfl
theorem counts_0_6 : countsRun 0 6 = true := by kernel_rfl
theorem counts_0_7 : countsRun 0 7 = true := by kernel_rfl
theorem counts_1_0 : countsRun 1 0 = true := by kernel_rfl
theorem counts_1_1 : countsRun 1 1 = true := by kernel_rfl
theorem counts_1_2 : countsRun 1 2 = true := by kernel_rfl
theorem counts_1_3 : countsRun 1 3 = true := by kernel_rfl
theorem counts_1_4 : countsRun 1 4 = true := by kernel_rfl
theorem counts_1_5 : countsRun 1 5 = true := by kernel_rfl
theorem counts_1_6 : countsRun 1 6 = true := by kernel_rfl
theorem counts_1_7 : countsRun 1 7 = true := by kernel_rfl
theorem counts_2_0 : countsRun 2 0 = true := by kernel_rfl
theorem counts_2_1 : countsRun 2 1 = true := by kernel_rfl
theorem counts_2_2 : countsRun 2 2 = true := by kernel_rfl
theorem counts_2_3 : countsRun 2 3 = true := by kernel_rfl
theorem counts_2_4 : countsRun 2 4 = true := by kernel_rfl
theorem counts_2_5 : countsRun 2 5 = true := by kernel_rfl
theorem counts_2_6 : countsRun 2 6 = true := by kernel_rfl
theorem counts_2_7 : countsRun 2 7 = true := by kernel_rfl
theorem counts_3_0 : countsRun 3 0 = true := by kernel_rfl
theorem counts_3_1 : countsRun 3 1 = true := by kernel_rfl
theorem counts_3_2 : countsRun 3 2 = true := by kernel_rfl
theorem counts_3_3 : countsRun 3 3 = true := by kernel_rfl
theorem counts_3_4 : countsRun 3 4 = true := by kernel_rfl
theorem counts_3_5 : countsRun 3 5 = true := by kernel_rfl
theorem counts_3_6 : countsRun 3 6 = true := by kernel_rfl
theorem counts_3_7 : countsRun 3 7 = true := by kernel_rfl
theorem counts_all : ∀ r q, r < 4 → q < 8 → countsRun r q = true
  | 0, 0, _, _ => counts_0_0
  | 0, 1, _, _ => counts_0_1
  | 0, 2, _, _ => counts_0_2
  | 0, 3, _, _ => counts_0_3
  | 0, 4, _, _ => counts_0_4
  | 0, 5, _, _ => counts_0_5
  | 0, 6, _, _ => counts_0_6
  | 0, 7, _, _ => counts_0_7
  | 1, 0, _, _ => counts_1_0
  | 1, 1, _, _ => counts_1_1
  | 1, 2, _, _ => counts_1_2
  | 1, 3, _, _ => counts_1_3
  | 1, 4, _, _ => counts_1_4
  | 1, 5, _, _ => counts_1_5
  | 1, 6, _, _ => counts_1_6
  | 1, 7, _, _ => counts_1_7
  | 2, 0, _, _ => counts_2_0
  | 2, 1, _, _ => counts_2_1
  | 2, 2, _, _ => counts_2_2
  | 2, 3, _, _ => counts_2_3
  | 2, 4, _, _ => counts_2_4
  | 2, 5, _, _ => counts_2_5
  | 2, 6, _, _ => counts_2_6
  | 2, 7, _, _ => counts_2_7
  | 3, 0, _, _ => counts_3_0
  | 3, 1, _, _ => counts_3_1
  | 3, 2, _, _ => counts_3_2
  | 3, 3, _, _ => counts_3_3
  | 3, 4, _, _ => counts_3_4
  | 3, 5, _, _ => counts_3_5
  | 3, 6, _, _ => counts_3_6
  | 3, 7, _, _ => counts_3_7
  | r + 4, _, h, _ => by omega
  | 0, q + 8, _, h => by omega
  | 1, q + 8, _, h => by omega
  | 2, q + 8, _, h => by omega
  | 3, q + 8, _, h => by omega
theorem law_counts (a0 a1 : Int) (W : World) (hL : laidMetH Tryz.prog laidL W) : Calls Tryz.prog 5 #[.int .i64 a0, .int .i64 a1] W fun e w' => e = .returned (.bool true) ∧ Only [] W w' := by
  have h0 := Exec.bitsOf_le a0 (c := 3) (by decide)
  have h1 := Exec.bitsOf_le a1 (c := 7) (by decide)
  refine law_run (ρ := fun i => if i = 0 then a0 else a1) (H := Exec.hyT [Exec.andRow 0 3 (Exec.bitsOf a0 3), Exec.andRow 1 7 (Exec.bitsOf a1 7)]) (args := [.int .i64 a0, .int .i64 a1]) (Exec.hyT_ok ?_) (spec23_ok _) hL (.cons (Exec.VR.mkVar 0) (.cons (Exec.VR.mkVar 1) .nil)) (by kernel_rfl) (counts_all _ _ (by omega) (by omega))
  intro e he
  simp only [List.mem_cons, List.not_mem_nil, or_false] at he
  rcases he with rfl | rfl
  · exact Exec.andRow_ok rfl
  · exact Exec.andRow_ok rfl
end Go.Proofs.YtehahelgemljlaaGreatDoor
