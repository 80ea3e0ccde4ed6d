/-
  interp's half on an even plane of 16 by 16: the law.
-/
import Derived.Test.YtcmehedjdfopdaaGreatExIc
namespace Go.Proofs.YtcmehedjdfopdaaGreat
open Go.RowKit
open Go.Exec (Row RowOk CvRow CvOk ShRow ShOk)
theorem rowsK_ok {x y v k : Int} (hk : ∀ c ∈ ([98, 104, 106, 109, 115, 114, 108] : List Nat), k ≠ (c : Int)) : ∀ e ∈ rowsK, RowOk (rhoI x y v k) e := by
  intro e he
  obtain ⟨c, hc, rfl⟩ := List.mem_map.1 he
  have h := hk c hc
  have hc2 : c ≤ 115 := by simp only [List.mem_cons, List.not_mem_nil, or_false] at hc; omega
  refine row_bool ?_
  simp only [Exec.valR, Exec.opV, rhoI]
  have e1 : IntKind.i64.wrap (c : Int) = (c : Int) := by rw [IntKind.wrap_i64]; omega
  rw [e1]
  have : (k == (c : Int)) = false := by simpa using h
  rw [this]
theorem specI_ok {ρ : Nat → Int} {W h : Nat} (hW : 1 ≤ W ∧ W ≤ 128) (hh : 1 ≤ h ∧ h ≤ 128) (h0 : 0 ≤ ρ 2) (h1 : ρ 2 ≤ 255) : Exec.SpecOk Tryz.prog ρ (specI W h) :=
  Exec.specAdd_ok (Exec.pl_one (at_law hW.1 hW.2 hh.1 hh.2) (by kernel_rfl) (by kernel_rfl) (by kernel_rfl) hW hh (fun i hi => by rw [List.mem_singleton.1 hi]; exact ⟨h0, h1⟩)) (Exec.specAdd_ok (clipI_one h0 h1) Exec.spec0_ok)
theorem half_law : Exec.PlLaw Tryz.prog 165 16 16 3 := by
  refine Exec.pl_of_run (tp := 255) (u := 5) (by kernel_rfl) (by kernel_rfl) (by kernel_rfl) (by decide) (by decide) fun xs v hk v0 v1 => ?_
  match xs, hk with
  | [x, y, k], _ =>
    have lit : ∀ c : Nat, c ≤ 128 → k = (c : Int) → halfR (Exec.litV c) = true → ∃ (ρ : Nat → Int) (call : Exec.Caller) (vs : List Exec.V), Exec.Cal Tryz.prog ρ call ∧ ρ 2 = v ∧ (∀ η : Exec.Nv, η.ρ = ρ → Exec.VRL η vs ([x, y, k].map (Value.int .i64))) ∧ Exec.isV2 (call 165 (Exec.vS ⟨4, 256, 0, 0, 0, [], []⟩ :: vs) (Exec.planeSt 255 5 16 16)) = true := by
      intro c hc hkc hrun
      subst hkc
      refine ⟨rhoI x y v c, _, [Exec.mkVar 0, Exec.mkVar 1, Exec.litV c], runQ_ok (Exec.hyS_ok (rowsI_ok v0 v1) (fun e he => by cases he) shsI_ok (fun e he => by cases he)) (specI_ok (by decide) (by decide) v0 v1), rfl, fun η hη => ?_, hrun⟩
      have m0 := Exec.VR.mkVar (η := η) 0
      have m1 := Exec.VR.mkVar (η := η) 1
      rw [hη] at m0 m1
      exact .cons m0 (.cons m1 (.cons (.litV (by omega)) .nil))
    by_cases e1 : k = 98
    · exact lit 98 (by decide) e1 half_b
    by_cases e2 : k = 104
    · exact lit 104 (by decide) e2 half_h
    by_cases e3 : k = 106
    · exact lit 106 (by decide) e3 half_j
    by_cases e4 : k = 109
    · exact lit 109 (by decide) e4 half_m
    by_cases e5 : k = 115
    · exact lit 115 (by decide) e5 half_s
    by_cases e6 : k = 114
    · exact lit 114 (by decide) e6 half_r
    by_cases e7 : k = 108
    · exact lit 108 (by decide) e7 half_l
    refine ⟨rhoI x y v k, _, [Exec.mkVar 0, Exec.mkVar 1, Exec.mkVar 3], runQ_ok (Exec.hyS_ok (fun e he => (List.mem_append.1 he).elim (rowsK_ok (fun c hc => ?_) e) (rowsI_ok v0 v1 e)) (fun e he => by cases he) shsI_ok (fun e he => by cases he)) (specI_ok (by decide) (by decide) v0 v1), rfl, fun η hη => ?_, half_v⟩
    · simp only [List.mem_cons, List.not_mem_nil, or_false] at hc
      rcases hc with rfl | rfl | rfl | rfl | rfl | rfl | rfl <;> assumption
    · have m0 := Exec.VR.mkVar (η := η) 0
      have m1 := Exec.VR.mkVar (η := η) 1
      have m3 := Exec.VR.mkVar (η := η) 3
      rw [hη] at m0 m1 m3
      exact .cons m0 (.cons m1 (.cons m3 .nil))
end Go.Proofs.YtcmehedjdfopdaaGreat
