/-
  SyntaxFar: all its runs together.
-/
import Derived.Test.YtehahelgemljlaaGreatDoorExFaA
import Derived.Test.YtehahelgemljlaaGreatDoorExFaB
import Derived.Test.YtehahelgemljlaaGreatDoorExFaC
import Derived.Test.YtehahelgemljlaaGreatDoorExFaD
namespace Go.Proofs.YtehahelgemljlaaGreatDoor
open Go.RowKit

theorem far_no_0 : ∀ a b, a < 7 → b < 7 → farNo a b false true = true
  | 0, 0, _, _ => far_0_0_0
  | 0, 1, _, _ => far_0_0_1
  | 0, 2, _, _ => far_0_0_2
  | 0, 3, _, _ => far_0_0_3
  | 0, 4, _, _ => far_0_0_4
  | 0, 5, _, _ => far_0_0_5
  | 0, 6, _, _ => far_0_0_6
  | 1, 0, _, _ => far_0_1_0
  | 1, 1, _, _ => far_0_1_1
  | 1, 2, _, _ => far_0_1_2
  | 1, 3, _, _ => far_0_1_3
  | 1, 4, _, _ => far_0_1_4
  | 1, 5, _, _ => far_0_1_5
  | 1, 6, _, _ => far_0_1_6
  | 2, 0, _, _ => far_0_2_0
  | 2, 1, _, _ => far_0_2_1
  | 2, 2, _, _ => far_0_2_2
  | 2, 3, _, _ => far_0_2_3
  | 2, 4, _, _ => far_0_2_4
  | 2, 5, _, _ => far_0_2_5
  | 2, 6, _, _ => far_0_2_6
  | 3, 0, _, _ => far_0_3_0
  | 3, 1, _, _ => far_0_3_1
  | 3, 2, _, _ => far_0_3_2
  | 3, 3, _, _ => far_0_3_3
  | 3, 4, _, _ => far_0_3_4
  | 3, 5, _, _ => far_0_3_5
  | 3, 6, _, _ => far_0_3_6
  | 4, 0, _, _ => far_0_4_0
  | 4, 1, _, _ => far_0_4_1
  | 4, 2, _, _ => far_0_4_2
  | 4, 3, _, _ => far_0_4_3
  | 4, 4, _, _ => far_0_4_4
  | 4, 5, _, _ => far_0_4_5
  | 4, 6, _, _ => far_0_4_6
  | 5, 0, _, _ => far_0_5_0
  | 5, 1, _, _ => far_0_5_1
  | 5, 2, _, _ => far_0_5_2
  | 5, 3, _, _ => far_0_5_3
  | 5, 4, _, _ => far_0_5_4
  | 5, 5, _, _ => far_0_5_5
  | 5, 6, _, _ => far_0_5_6
  | 6, 0, _, _ => far_0_6_0
  | 6, 1, _, _ => far_0_6_1
  | 6, 2, _, _ => far_0_6_2
  | 6, 3, _, _ => far_0_6_3
  | 6, 4, _, _ => far_0_6_4
  | 6, 5, _, _ => far_0_6_5
  | 6, 6, _, _ => far_0_6_6
  | a + 7, _, h, _ => by omega
  | 0, b + 7, _, h => by omega
  | 1, b + 7, _, h => by omega
  | 2, b + 7, _, h => by omega
  | 3, b + 7, _, h => by omega
  | 4, b + 7, _, h => by omega
  | 5, b + 7, _, h => by omega
  | 6, b + 7, _, h => by omega
theorem far_no_1 : ∀ a b, a < 7 → b < 7 → ¬ ((a = 3 ∨ a = 4) ∧ b = 3) → farNo a b true true = true
  | 0, 0, _, _, _ => far_1_0_0
  | 0, 1, _, _, _ => far_1_0_1
  | 0, 2, _, _, _ => far_1_0_2
  | 0, 3, _, _, _ => far_1_0_3
  | 0, 4, _, _, _ => far_1_0_4
  | 0, 5, _, _, _ => far_1_0_5
  | 0, 6, _, _, _ => far_1_0_6
  | 1, 0, _, _, _ => far_1_1_0
  | 1, 1, _, _, _ => far_1_1_1
  | 1, 2, _, _, _ => far_1_1_2
  | 1, 3, _, _, _ => far_1_1_3
  | 1, 4, _, _, _ => far_1_1_4
  | 1, 5, _, _, _ => far_1_1_5
  | 1, 6, _, _, _ => far_1_1_6
  | 2, 0, _, _, _ => far_1_2_0
  | 2, 1, _, _, _ => far_1_2_1
  | 2, 2, _, _, _ => far_1_2_2
  | 2, 3, _, _, _ => far_1_2_3
  | 2, 4, _, _, _ => far_1_2_4
  | 2, 5, _, _, _ => far_1_2_5
  | 2, 6, _, _, _ => far_1_2_6
  | 3, 0, _, _, _ => far_1_3_0
  | 3, 1, _, _, _ => far_1_3_1
  | 3, 2, _, _, _ => far_1_3_2
  | 3, 3, _, _, h => absurd ⟨.inl rfl, rfl⟩ h
  | 3, 4, _, _, _ => far_1_3_4
  | 3, 5, _, _, _ => far_1_3_5
  | 3, 6, _, _, _ => far_1_3_6
  | 4, 0, _, _, _ => far_1_4_0
  | 4, 1, _, _, _ => far_1_4_1
  | 4, 2, _, _, _ => far_1_4_2
  | 4, 3, _, _, h => absurd ⟨.inr rfl, rfl⟩ h
  | 4, 4, _, _, _ => far_1_4_4
  | 4, 5, _, _, _ => far_1_4_5
  | 4, 6, _, _, _ => far_1_4_6
  | 5, 0, _, _, _ => far_1_5_0
  | 5, 1, _, _, _ => far_1_5_1
  | 5, 2, _, _, _ => far_1_5_2
  | 5, 3, _, _, _ => far_1_5_3
  | 5, 4, _, _, _ => far_1_5_4
  | 5, 5, _, _, _ => far_1_5_5
  | 5, 6, _, _, _ => far_1_5_6
  | 6, 0, _, _, _ => far_1_6_0
  | 6, 1, _, _, _ => far_1_6_1
  | 6, 2, _, _, _ => far_1_6_2
  | 6, 3, _, _, _ => far_1_6_3
  | 6, 4, _, _, _ => far_1_6_4
  | 6, 5, _, _, _ => far_1_6_5
  | 6, 6, _, _, _ => far_1_6_6
  | a + 7, _, h, _, _ => by omega
  | 0, b + 7, _, h, _ => by omega
  | 1, b + 7, _, h, _ => by omega
  | 2, b + 7, _, h, _ => by omega
  | 3, b + 7, _, h, _ => by omega
  | 4, b + 7, _, h, _ => by omega
  | 5, b + 7, _, h, _ => by omega
  | 6, b + 7, _, h, _ => by omega
theorem far_no_2 : ∀ a b, a < 7 → b < 7 → farNo a b true false = true
  | 0, 0, _, _ => far_2_0_0
  | 0, 1, _, _ => far_2_0_1
  | 0, 2, _, _ => far_2_0_2
  | 0, 3, _, _ => far_2_0_3
  | 0, 4, _, _ => far_2_0_4
  | 0, 5, _, _ => far_2_0_5
  | 0, 6, _, _ => far_2_0_6
  | 1, 0, _, _ => far_2_1_0
  | 1, 1, _, _ => far_2_1_1
  | 1, 2, _, _ => far_2_1_2
  | 1, 3, _, _ => far_2_1_3
  | 1, 4, _, _ => far_2_1_4
  | 1, 5, _, _ => far_2_1_5
  | 1, 6, _, _ => far_2_1_6
  | 2, 0, _, _ => far_2_2_0
  | 2, 1, _, _ => far_2_2_1
  | 2, 2, _, _ => far_2_2_2
  | 2, 3, _, _ => far_2_2_3
  | 2, 4, _, _ => far_2_2_4
  | 2, 5, _, _ => far_2_2_5
  | 2, 6, _, _ => far_2_2_6
  | 3, 0, _, _ => far_2_3_0
  | 3, 1, _, _ => far_2_3_1
  | 3, 2, _, _ => far_2_3_2
  | 3, 3, _, _ => far_2_3_3
  | 3, 4, _, _ => far_2_3_4
  | 3, 5, _, _ => far_2_3_5
  | 3, 6, _, _ => far_2_3_6
  | 4, 0, _, _ => far_2_4_0
  | 4, 1, _, _ => far_2_4_1
  | 4, 2, _, _ => far_2_4_2
  | 4, 3, _, _ => far_2_4_3
  | 4, 4, _, _ => far_2_4_4
  | 4, 5, _, _ => far_2_4_5
  | 4, 6, _, _ => far_2_4_6
  | 5, 0, _, _ => far_2_5_0
  | 5, 1, _, _ => far_2_5_1
  | 5, 2, _, _ => far_2_5_2
  | 5, 3, _, _ => far_2_5_3
  | 5, 4, _, _ => far_2_5_4
  | 5, 5, _, _ => far_2_5_5
  | 5, 6, _, _ => far_2_5_6
  | 6, 0, _, _ => far_2_6_0
  | 6, 1, _, _ => far_2_6_1
  | 6, 2, _, _ => far_2_6_2
  | 6, 3, _, _ => far_2_6_3
  | 6, 4, _, _ => far_2_6_4
  | 6, 5, _, _ => far_2_6_5
  | 6, 6, _, _ => far_2_6_6
  | a + 7, _, h, _ => by omega
  | 0, b + 7, _, h => by omega
  | 1, b + 7, _, h => by omega
  | 2, b + 7, _, h => by omega
  | 3, b + 7, _, h => by omega
  | 4, b + 7, _, h => by omega
  | 5, b + 7, _, h => by omega
  | 6, b + 7, _, h => by omega
theorem farP_all_3 : ∀ j, 2 ≤ j → j ≤ 10 → farP 3 j = true
  | 0, h, _ => by omega
  | 1, h, _ => by omega
  | 2, _, _ => farP_3_2
  | 3, _, _ => farP_3_3
  | 4, _, _ => farP_3_4
  | 5, _, _ => farP_3_5
  | 6, _, _ => farP_3_6
  | 7, _, _ => farP_3_7
  | 8, _, _ => farP_3_8
  | 9, _, _ => farP_3_9
  | 10, _, _ => farP_3_10
  | j + 11, _, h => by omega
theorem farP_all_4 : ∀ j, 2 ≤ j → j ≤ 10 → farP 4 j = true
  | 0, h, _ => by omega
  | 1, h, _ => by omega
  | 2, _, _ => farP_4_2
  | 3, _, _ => farP_4_3
  | 4, _, _ => farP_4_4
  | 5, _, _ => farP_4_5
  | 6, _, _ => farP_4_6
  | 7, _, _ => farP_4_7
  | 8, _, _ => farP_4_8
  | 9, _, _ => farP_4_9
  | 10, _, _ => farP_4_10
  | j + 11, _, h => by omega
theorem farN_all_3 : ∀ j, 1 ≤ j → j ≤ 10 → farN 3 j = true
  | 0, h, _ => by omega
  | 1, _, _ => farN_3_1
  | 2, _, _ => farN_3_2
  | 3, _, _ => farN_3_3
  | 4, _, _ => farN_3_4
  | 5, _, _ => farN_3_5
  | 6, _, _ => farN_3_6
  | 7, _, _ => farN_3_7
  | 8, _, _ => farN_3_8
  | 9, _, _ => farN_3_9
  | 10, _, _ => farN_3_10
  | j + 11, _, h => by omega
theorem farN_all_4 : ∀ j, 1 ≤ j → j ≤ 10 → farN 4 j = true
  | 0, h, _ => by omega
  | 1, _, _ => farN_4_1
  | 2, _, _ => farN_4_2
  | 3, _, _ => farN_4_3
  | 4, _, _ => farN_4_4
  | 5, _, _ => farN_4_5
  | 6, _, _ => farN_4_6
  | 7, _, _ => farN_4_7
  | 8, _, _ => farN_4_8
  | 9, _, _ => farN_4_9
  | 10, _, _ => farN_4_10
  | j + 11, _, h => by omega
theorem tmod_q (n : Int) : ∃ q : Nat, q < 7 ∧ n.tmod 4 = (q : Int) - 3 := by
  have h1 := Int.tmod_lt_of_pos n (show (0 : Int) < 4 by decide)
  have h2 : -4 < n.tmod 4 := by
    have := Int.lt_tmod_of_pos n (show (0 : Int) < 4 by decide)
    omega
  exact ⟨(n.tmod 4 + 3).toNat, by omega, by omega⟩
theorem law_far (a0 a1 a2 : Int) (W : World) (hL : laidMetH Tryz.prog laidL W) : Calls Tryz.prog 4 #[.int .i64 a0, .int .i64 a1, .int .i64 a2] W fun e w' => e = .returned (.bool true) ∧ Only [] W w' := by
  obtain ⟨q1, h1, e1⟩ := tmod_q a1
  obtain ⟨q2, h2, e2⟩ := tmod_q a2
  have args : ∀ ρ : Nat → Int, ρ 0 = a0 → ρ 1 = a1 → ρ 2 = a2 → Exec.VRL (Exec.globNv ρ 0 256) [Exec.mkVar 0, Exec.mkVar 1, Exec.mkVar 2] [.int .i64 a0, .int .i64 a1, .int .i64 a2] := fun ρ k0 k1 k2 => by
    have g0 := Exec.VR.mkVar (η := Exec.globNv ρ 0 256) 0
    have g1 := Exec.VR.mkVar (η := Exec.globNv ρ 0 256) 1
    have g2 := Exec.VR.mkVar (η := Exec.globNv ρ 0 256) 2
    have e0 : (Exec.globNv ρ 0 256).ρ = ρ := rfl
    rw [e0, k0] at g0
    rw [e0, k1] at g1
    rw [e0, k2] at g2
    exact .cons g0 (.cons g1 (.cons g2 .nil))
  have no : ∀ lo hi, lo = decide (-256 ≤ a0.tmod 400) → hi = decide (a0.tmod 400 ≤ 256) → farNo q1 q2 lo hi = true → Calls Tryz.prog 4 #[.int .i64 a0, .int .i64 a1, .int .i64 a2] W fun e w' => e = .returned (.bool true) ∧ Only [] W w' := fun lo hi hlo hhi hr =>
    law_run (ρ := rhoF a0 a1 a2 (a0.tmod 400) 0 0) (Exec.hyR_ok (rowsA_ok rfl h1 h2 e1 e2 hlo hhi) (fun e he => by cases he)) (specU_ok _) hL (args _ rfl rfl rfl) (by kernel_rfl) hr
  by_cases hlo : -256 ≤ a0.tmod 400
  · by_cases hhi : a0.tmod 400 ≤ 256
    · by_cases hf : (q1 = 3 ∨ q1 = 4) ∧ q2 = 3
      · obtain ⟨hq, rfl⟩ := hf
        by_cases hp : 0 < a0.tmod 400
        · obtain ⟨n, hn⟩ : ∃ n : Nat, 2 * a0.tmod 400 = (n : Int) := ⟨(2 * a0.tmod 400).toNat, by omega⟩
          have hn2 : 2 ≤ n ∧ n < 514 := by omega
          have hl := Exec.allN_ok len_two n hn2.2
          rcases Exec.or_ok hl with hl | hl
          · have := Exec.blt_ok hl; omega
          obtain ⟨l1, l2⟩ := Exec.and_ok hl
          refine law_run (ρ := rhoF a0 a1 a2 (a0.tmod 400) (2 * a0.tmod 400) (2 * a0.tmod 400)) (sp := specV (lenN n)) (Exec.hyR_ok (l := rowsA q1 3 true true ++ (rowsB true ++ rowsP)) (c := [(6, 7)]) (fun e he => ?_) (fun e he => ?_)) (Exec.specAdd_ok (lenF_one (x := n) hn hn2.2 rfl) (specU_ok _)) hL (args _ rfl rfl rfl) (by kernel_rfl) ?_
          · rcases List.mem_append.1 he with he | he
            · exact rowsA_ok rfl h1 (by decide) e1 e2 (by simp [hlo]) (by simp [hhi]) e he
            · rcases List.mem_append.1 he with he | he
              · exact rowsB_ok hlo hhi (by simp [hp]) e he
              · exact rowsP_ok hp hhi e he
          · rw [List.mem_singleton.1 he, IntKind.wrap_u64]
            show (2 * a0.tmod 400) % 18446744073709551616 = 2 * a0.tmod 400
            omega
          · show farP q1 (lenN n) = true
            rcases hq with rfl | rfl
            · exact farP_all_3 _ (Exec.ble_ok l1) (Exec.ble_ok l2)
            · exact farP_all_4 _ (Exec.ble_ok l1) (Exec.ble_ok l2)
        · obtain ⟨n, hn⟩ : ∃ n : Nat, -2 * a0.tmod 400 + 1 = (n : Int) := ⟨(-2 * a0.tmod 400 + 1).toNat, by omega⟩
          have hn2 : 1 ≤ n ∧ n < 514 := by omega
          have hl := Exec.allN_ok len_one n hn2.2
          rcases Exec.or_ok hl with hl | hl
          · have := Exec.blt_ok hl; omega
          obtain ⟨l1, l2⟩ := Exec.and_ok hl
          refine law_run (ρ := rhoF a0 a1 a2 (a0.tmod 400) (-2 * a0.tmod 400) (-2 * a0.tmod 400 + 1)) (sp := specV (lenN n)) (Exec.hyR_ok (l := rowsA q1 3 true true ++ (rowsB false ++ rowsN)) (c := [(6, 7)]) (fun e he => ?_) (fun e he => ?_)) (Exec.specAdd_ok (lenF_one (x := n) hn hn2.2 rfl) (specU_ok _)) hL (args _ rfl rfl rfl) (by kernel_rfl) ?_
          · rcases List.mem_append.1 he with he | he
            · exact rowsA_ok rfl h1 (by decide) e1 e2 (by simp [hlo]) (by simp [hhi]) e he
            · rcases List.mem_append.1 he with he | he
              · exact rowsB_ok hlo hhi (by simp [hp]) e he
              · exact rowsN_ok hlo (by omega) e he
          · rw [List.mem_singleton.1 he, IntKind.wrap_u64]
            show (-2 * a0.tmod 400 + 1) % 18446744073709551616 = -2 * a0.tmod 400 + 1
            omega
          · show farN q1 (lenN n) = true
            rcases hq with rfl | rfl
            · exact farN_all_3 _ (Exec.ble_ok l1) (Exec.ble_ok l2)
            · exact farN_all_4 _ (Exec.ble_ok l1) (Exec.ble_ok l2)
      · exact no true true (by simp [hlo]) (by simp [hhi]) (far_no_1 _ _ h1 h2 hf)
    · exact no true false (by simp [hlo]) (by simp [hhi]) (far_no_2 _ _ h1 h2)
  · exact no false true (by simp [hlo]) (by simp; omega) (far_no_0 _ _ h1 h2)
end Go.Proofs.YtehahelgemljlaaGreatDoor
