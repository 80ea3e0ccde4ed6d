/-
  What the runner needs of this program (recon): sync.Once, MakeNoZero, the clip of weights, the law's SameBytes.
-/
import Derived.Test.YtcmehedjdfopdaaGreatOnceF
import Derived.Test.YtcmehedjdfopdaaGreatExQ
import Derived.KernelRfl
import Derived.IntWalk
import Derived.Laws.BytesArg
namespace Go.Proofs.YtcmehedjdfopdaaGreat
open Go.RowKit

theorem noZeroR : Exec.NoZeroLaw Tryz.prog 66 5 :=
  Exec.noZero_law (ti := 3) (ts := 46) Tryz.func66 (by kernel_rfl) (by kernel_rfl) (by kernel_rfl) (by kernel_rfl) Tryz.underlying46
def clipR (v : Int) : Int := if v < 0 then 0 else if 255 < v then 255 else v
theorem clipR_run (v : Int) (w : World) (h0 : -1048576 ≤ v) (h1 : v ≤ 1048576) :
    Calls Tryz.prog 19 #[.int .i64 v] w fun e w' => e = .returned (.int .i64 (clipR v)) ∧ w = w' := by
  go_enter Tryz.func19, Tryz.ntmps19
  go_wp2 <;> go_ret <;> exact ⟨ret_int (by unfold clipR; omega), rfl⟩
set_option maxHeartbeats 800000 in
theorem sameR : Exec.SameLaw Tryz.prog 30 := by
  intro w b1 b2 n c1 c2 xs hn k1 k2
  refine ⟨Exec.fnOk_enter (by kernel_rfl) _ w, ?_⟩
  subst hn
  have e1 := run_convert_bytes_arg (P := Tryz.prog) w 46 5 Tryz.underlying46 Tryz.underlying5 b1 0 xs.length c1 xs rfl (fun i hi => by rw [Nat.zero_add]; exact k1 i hi) 9 Tryz.underlying9
  have e2 := run_convert_bytes_arg (P := Tryz.prog) w 46 5 Tryz.underlying46 Tryz.underlying5 b2 0 xs.length c2 xs rfl (fun i hi => by rw [Nat.zero_add]; exact k2 i hi) 9 Tryz.underlying9
  obtain ⟨S, hS⟩ : ∃ S, S = strOfNums xs := ⟨_, rfl⟩
  rw [← hS] at e1 e2
  clear hS k1 k2
  go_enter Tryz.func30, Tryz.ntmps30
  go_wp2
  go_ret
  exact ⟨rfl, rfl⟩
noncomputable def drawQ : Nat → Exec.Draw := Exec.theDraw3 plansS
theorem drawQ_ok (ρ : Nat → Int) (H : Exec.Hy) (hH : Exec.HyAt Tryz.prog ρ H) : Exec.DrawOk Tryz.prog ρ H (Exec.mthP Tryz.prog) drawQ := Exec.theDraw3_ok plansS_ok (by kernel_rfl) hH Exec.mthP_ok
noncomputable def specQ : Nat → Option Exec.FnC := Exec.specAdd 66 (Exec.noZeroC 5) (Exec.specAdd 90 (Exec.onceC Tryz.prog) Exec.spec0)
theorem specQ_ok (ρ : Nat → Int) : Exec.SpecOk Tryz.prog ρ specQ := Exec.specAdd_ok (Exec.noZero_one noZeroR (by kernel_rfl)) (Exec.specAdd_ok (Exec.once_one onceLaws (by kernel_rfl)) Exec.spec0_ok)
noncomputable def runQ (H : Exec.Hy) (sp : Nat → Option Exec.FnC) : Exec.Caller := Exec.callN drawQ H Tryz.prog (Exec.mthP Tryz.prog) sp Exec.idle0 200
theorem runQ_ok {ρ : Nat → Int} {H : Exec.Hy} {sp : Nat → Option Exec.FnC} (hH : Exec.HyAt Tryz.prog ρ H) (hS : Exec.SpecOk Tryz.prog ρ sp) : Exec.Cal Tryz.prog ρ (runQ H sp) := Exec.callN_ok Exec.idle0_ok hH Exec.mthP_ok (drawQ_ok ρ _ hH) hS 200
noncomputable def startR : Exec.St := Exec.st0 272
theorem startR_start : Exec.Start startR [] := ⟨fun n h => (by cases h), Nat.le_refl _, fun n _ hl => by unfold startR at hl; rw [Exec.st0_dead] at hl; exact absurd hl (Nat.lt_irrefl 0)⟩
theorem memo_runQ (ρ : Nat → Int) {sp : Nat → Option Exec.FnC} (hS : Exec.SpecOk Tryz.prog ρ sp) {g : Nat} {vs0 : List Exec.V} {v0 : Exec.V} (h : Exec.okMemo startR [] v0 (runQ Exec.hy0 sp g vs0 startR) = true) : Exec.Memo Tryz.prog ρ startR [] g vs0 v0 :=
  fun _ _ _ _ _ hρ hv hR hm hg => Exec.memo_ok (runQ_ok Exec.hy0_ok hS) startR_start h hρ hv hR hm hg
/-- the clip of a variable: another variable -/
noncomputable def clipC (l : List (Nat × Exec.Sc)) : Exec.FnC := Exec.varC l (Exec.fnC drawQ Exec.hy0 Tryz.prog (Exec.mthP Tryz.prog) Exec.spec0 Exec.idle0 19)
theorem clipC_one {ρ : Nat → Int} {i j : Nat} (h0 : -1048576 ≤ ρ i) (h1 : ρ i ≤ 1048576) (hj : ρ j = clipR (ρ i)) : Exec.OneOk Tryz.prog ρ 19 (clipC [(i, ⟨24, j, 19, 0, 0, [], []⟩)]) := by
  refine Exec.var_one (Exec.fn_one Exec.idle0_ok Exec.hy0_ok Exec.mthP_ok (drawQ_ok ρ _ Exec.hy0_ok) _) fun e he w => ?_
  rw [List.mem_singleton.1 he]
  refine ⟨.int .i64 (ρ j), fun η hρ => by rw [← hρ]; exact .var (s := ⟨24, j, 19, 0, 0, [], []⟩) .i64 rfl rfl, Exec.fnOk_enter (by kernel_rfl) _ w, (clipR_run (ρ i) w h0 h1).mono ?_⟩
  rintro r w' ⟨rfl, rfl⟩
  exact ⟨by rw [hj], rfl, rfl, rfl, Nat.le_refl _, fun _ _ => rfl⟩
set_option maxRecDepth 1000000
theorem awake22_run : Exec.okMemo startR [] Exec.vT (runQ Exec.hy0 specQ 10 [] startR) = true := by kernel_rfl
noncomputable def specR : Nat → Option Exec.FnC := Exec.specAdd 10 (Exec.memoC startR [] [([], Exec.vT)] Exec.badF) (Exec.specAdd 30 Exec.sameBy specQ)
theorem specR_ok (ρ : Nat → Int) : Exec.SpecOk Tryz.prog ρ specR :=
  Exec.specAdd_ok (Exec.memo_one Exec.bad_one fun e he => by rw [List.mem_singleton.1 he]; exact memo_runQ ρ (specQ_ok ρ) awake22_run) (Exec.specAdd_ok (Exec.same_one sameR) (specQ_ok ρ))
end Go.Proofs.YtcmehedjdfopdaaGreat
