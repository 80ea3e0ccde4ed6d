/-
  May a macroblock's coefficients be: all nought, or one first coefficient: known answers.
-/
import Derived.Test.YtehahelgemljlaaGreatDoorExS
import Derived.Test.YtehahelgemljlaaGreatDoorExG
namespace Go.Proofs.YtehahelgemljlaaGreatDoor
open Go.RowKit

noncomputable def i64S (n : Nat) : Exec.Sc := ⟨19, n, 0, 0, 0, [], []⟩
/-- A macroblock of a kind whose coefficients are nought but luma's first one; the rest is not looked at. -/
noncomputable def mbPat (kind dc : Nat) : Exec.Blk := ⟨483, 43, Exec.tabC (fun i =>
  Bool.rec (motive := fun _ => Exec.Sc) (Bool.rec (motive := fun _ => Exec.Sc) (Bool.rec (motive := fun _ => Exec.Sc) Exec.sc0 (i64S 0) (Bool.or (Nat.beq i 48) (Bool.and (Nat.ble 50 i) (Nat.blt i 482)))) (i64S dc) (Nat.beq i 434)) (i64S kind) (Nat.beq i 0))⟩
noncomputable def coefEnt (kind dc : Nat) : Exec.LEnt := ⟨[0], [mbPat kind dc], [Exec.mkP 256 0], Exec.vT⟩
noncomputable def coefRun (kind dc : Nat) : Bool := Exec.okLent (coefEnt kind dc) (runW Exec.hy0 specS 67 (coefEnt kind dc).vs (Exec.lendB (coefEnt kind dc).Bs 256 startS))
theorem coef_memo (ρ : Nat → Int) {kind dc : Nat} (h : coefRun kind dc = true) : Exec.LMemo Tryz.prog ρ startS [0] 67 (coefEnt kind dc) :=
  Exec.lmemo_ok (runW_ok Exec.hy0_ok (specS_ok ρ)) start_start (show 1 ≤ 16 by decide) h
set_option maxRecDepth 1000000
theorem coef_1_3 : coefRun 1 3 = true := by kernel_rfl
theorem coef_3_0 : coefRun 3 0 = true := by kernel_rfl
noncomputable def specM : Nat → Option Exec.FnC := Exec.specAdd 67 (Exec.lentC startS [0] [coefEnt 1 3, coefEnt 3 0] Exec.badF) specS
theorem specM_ok (ρ : Nat → Int) : Exec.SpecOk Tryz.prog ρ specM := by
  refine Exec.specAdd_ok (Exec.lent_one Exec.bad_one fun e he => ?_) (specS_ok ρ)
  simp only [List.mem_cons, List.not_mem_nil, or_false] at he
  rcases he with rfl | rfl
  · exact coef_memo ρ coef_1_3
  · exact coef_memo ρ coef_3_0
end Go.Proofs.YtehahelgemljlaaGreatDoor
