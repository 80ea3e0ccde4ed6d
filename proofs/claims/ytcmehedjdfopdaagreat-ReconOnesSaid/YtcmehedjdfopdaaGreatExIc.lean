/-
  interp's half on an even plane: the law.
-/
import Derived.Test.YtcmehedjdfopdaaGreatExIb
namespace Go.Proofs.YtcmehedjdfopdaaGreat
open Go.RowKit
open Go.Exec (Row RowOk CvRow CvOk ShRow ShOk)
theorem clipI_run (v : Int) (w : World) (h0 : 0 ≤ v) (h1 : v ≤ 255) :
    Calls Tryz.prog 183 #[.int .i64 v] w fun e w' => e = .returned (.int .i64 v) ∧ w = w' := by
  go_enter Tryz.func183, Tryz.ntmps183
  go_wp2 <;> go_ret <;> exact ⟨ret_int (by omega), rfl⟩
theorem clipI_one {ρ : Nat → Int} (h0 : 0 ≤ ρ 2) (h1 : ρ 2 ≤ 255) : Exec.OneOk Tryz.prog ρ 183 (Exec.varC [(2, vrS 2)] Exec.badF) := by
  refine Exec.var_one Exec.bad_one fun e he w => ?_
  rw [List.mem_singleton.1 he]
  refine ⟨.int .i64 (ρ 2), fun η hρ => by rw [← hρ]; exact .var (s := vrS 2) .i64 rfl rfl, Exec.fnOk_enter (by kernel_rfl) _ w, (clipI_run (ρ 2) w h0 h1).mono ?_⟩
  rintro r w' ⟨rfl, rfl⟩
  exact ⟨rfl, rfl, rfl, rfl, Nat.le_refl _, fun _ _ => rfl⟩
theorem k5 : IntKind.i64.wrap ((5 : Nat) : Int) = 5 := by rw [IntKind.wrap_i64]; rfl
theorem k16 : IntKind.i64.wrap ((16 : Nat) : Int) = 16 := by rw [IntKind.wrap_i64]; rfl
theorem k512 : IntKind.i64.wrap ((512 : Nat) : Int) = 512 := by rw [IntKind.wrap_i64]; rfl
section
variable {x y v k : Int}
theorem rowsI_ok (h0 : 0 ≤ v) (h1 : v ≤ 255) : ∀ e ∈ rowsI, RowOk (rhoI x y v k) e := by
  intro e he
  simp only [rowsI, List.mem_cons, List.not_mem_nil, or_false] at he
  rcases he with rfl | rfl | rfl | rfl | rfl | rfl | rfl | rfl | rfl | rfl | rfl | rfl | rfl | rfl | rfl | rfl
  all_goals
    refine row_var ?_
    simp only [Exec.valR, Exec.opV, k5, k16, k20, k512, rhoI]
    exact congrArg (fun z => some (Value.int IntKind.i64 z)) (by rw [IntKind.wrap_i64]; omega)
theorem shsI_ok : ∀ e ∈ shsI, ShOk (rhoI x y v k) e := by
  intro e he
  simp only [shsI, List.mem_cons, List.not_mem_nil, or_false] at he
  rcases he with rfl | rfl
  · exact sh_ok (d := 32) rfl (by decide) (show v = (32 * v + 16) / 32 by omega)
  · exact sh_ok (d := 1024) rfl (by decide) (show v = (1024 * v + 512) / 1024 by omega)
end
noncomputable def rowsK : List Row := [98, 104, 106, 109, 115, 114, 108].map fun c => ⟨.eql, true, 3, false, c, boS false⟩
set_option maxRecDepth 1000000 in
theorem half_v : Exec.isV2 (runQ (Exec.hyS (rowsK ++ rowsI) [] shsI []) (specI 16 16) 165 [Exec.vS ⟨4, 256, 0, 0, 0, [], []⟩, Exec.mkVar 0, Exec.mkVar 1, Exec.mkVar 3] (Exec.planeSt 255 5 16 16)) = true := by kernel_rfl
end Go.Proofs.YtcmehedjdfopdaaGreat
