/-
  What the runner needs of this program: sync.Once, the counter of calls, deferred closures that find no panic.
-/
import Derived.Test.YtehahelgemljlaaGreatDoorOnceF
import Derived.Test.YtehahelgemljlaaGreatDoorExQ
import Derived.Recover
import Derived.KernelRfl
namespace Go.Proofs.YtehahelgemljlaaGreatDoor
open Go.RowKit

theorem addLaw : Exec.AddLaw Tryz.prog 125 := fun a x y s w hc hz hs =>
  run_call_add (P := Tryz.prog) Tryz.func125 (by kernel_rfl) (by kernel_rfl) (by kernel_rfl) .i64 (by kernel_rfl) hc hz (by simp [go_sem, hs])

theorem idle_bins (p0 p1 p2 : Value) (w : World) :
    CallsD Tryz.prog 242 #[p0, p1, p2] .returning w fun e u' w' => (∃ v, e = .returned v) ∧ u' = .returning ∧ w' = w := by
  refine callsD_of_wpS Tryz.func242 rfl fun c₀ cs hu => ?_
  apply wpS_seq
  apply wpS_region
  simp [wpOpsS, go_sem, recoverD, hu, Tryz.ntmps242, Exit.thenS]
  apply wpS_seq
  apply wpS_region
  simp [wpOpsS, go_sem, Exit.thenS]
  refine wpS_cond (t := false) (by simp [Act.eval, Array.replicate]) ?_
  simp only [Bool.false_eq_true, if_false]
  refine wpS_of_wp (wp_skip ?_)
  cases c₀
  simp_all [bodyPostS, results, Tryz.results242]
theorem idle_levels (p0 p1 p2 p3 : Value) (w : World) :
    CallsD Tryz.prog 262 #[p0, p1, p2, p3] .returning w fun e u' w' => (∃ v, e = .returned v) ∧ u' = .returning ∧ w' = w := by
  refine callsD_of_wpS Tryz.func262 rfl fun c₀ cs hu => ?_
  apply wpS_seq
  apply wpS_region
  simp [wpOpsS, go_sem, recoverD, hu, Tryz.ntmps262, Exit.thenS]
  apply wpS_seq
  apply wpS_region
  simp [wpOpsS, go_sem, Exit.thenS]
  refine wpS_cond (t := false) (by simp [Act.eval, Array.replicate]) ?_
  simp only [Bool.false_eq_true, if_false]
  refine wpS_of_wp (wp_skip ?_)
  cases c₀
  simp_all [bodyPostS, results, Tryz.results262]
theorem idle_reader (p0 p1 p2 : Value) (w : World) :
    CallsD Tryz.prog 44 #[p0, p1, p2] .returning w fun e u' w' => (∃ v, e = .returned v) ∧ u' = .returning ∧ w' = w := by
  refine callsD_of_wpS Tryz.func44 rfl fun c₀ cs hu => ?_
  apply wpS_seq
  apply wpS_region
  simp [wpOpsS, go_sem, recoverD, hu, Tryz.ntmps44, Exit.thenS]
  apply wpS_seq
  apply wpS_region
  simp [wpOpsS, go_sem, Exit.thenS]
  refine wpS_cond (t := false) (by simp [Act.eval, Array.replicate]) ?_
  simp only [Bool.false_eq_true, if_false]
  refine wpS_of_wp (wp_skip ?_)
  cases c₀
  simp_all [bodyPostS, results, Tryz.results44]
theorem three_of {args : Array Value} (h : args.size = 3) : ∃ a b c, args = #[a, b, c] := by
  obtain ⟨l⟩ := args
  match l, h with
  | [a, b, c], _ => exact ⟨a, b, c, rfl⟩
theorem four_of {args : Array Value} (h : args.size = 4) : ∃ a b c d, args = #[a, b, c, d] := by
  obtain ⟨l⟩ := args
  match l, h with
  | [a, b, c, d], _ => exact ⟨a, b, c, d, rfl⟩
noncomputable def idleS : Nat → Nat → Bool := Exec.idleAdd 44 3 (Exec.idleAdd 242 3 (Exec.idleAdd 262 4 Exec.idle0))
theorem idleS_ok : Exec.IdleOk Tryz.prog idleS :=
  Exec.idleAdd_ok (fun args w h => by obtain ⟨a, b, c, rfl⟩ := three_of h; exact idle_reader a b c w)
    (Exec.idleAdd_ok (fun args w h => by obtain ⟨a, b, c, rfl⟩ := three_of h; exact idle_bins a b c w)
      (Exec.idleAdd_ok (fun args w h => by obtain ⟨a, b, c, d, rfl⟩ := four_of h; exact idle_levels a b c d w) Exec.idle0_ok))
noncomputable def drawS : Nat → Exec.Draw := Exec.theDraw3 plansS
theorem draw_ok (ρ : Nat → Int) (H : Exec.Hy) (hH : Exec.HyAt Tryz.prog ρ H) : Exec.DrawOk Tryz.prog ρ H (Exec.mthP Tryz.prog) drawS := Exec.theDraw3_ok plansS_ok (by kernel_rfl) hH Exec.mthP_ok
noncomputable def specS : Nat → Option Exec.FnC := Exec.specAdd 125 Exec.addC (Exec.specAdd 91 (Exec.onceC Tryz.prog) Exec.spec0)
theorem specS_ok (ρ : Nat → Int) : Exec.SpecOk Tryz.prog ρ specS := Exec.specAdd_ok (Exec.add_one addLaw) (Exec.specAdd_ok (Exec.once_one onceLaws (by kernel_rfl)) Exec.spec0_ok)
/-- The runner of this program. -/
noncomputable def runS : Exec.Caller := Exec.callN drawS Exec.hy0 Tryz.prog (Exec.mthP Tryz.prog) specS idleS 200
theorem runS_ok (ρ : Nat → Int) : Exec.Cal Tryz.prog ρ runS := Exec.callN_ok idleS_ok Exec.hy0_ok Exec.mthP_ok (draw_ok ρ _ Exec.hy0_ok) (specS_ok ρ) 200
end Go.Proofs.YtehahelgemljlaaGreatDoor
