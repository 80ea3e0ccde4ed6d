/-
  The laws of Luma and Chroma between no samples, and of Mean of two equal rows; ReconCopies's rows.
-/
import Derived.Test.YtcmehedjdfopdaaGreatExCa
namespace Go.Proofs.YtcmehedjdfopdaaGreat
open Go Go.RowKit
open Go.Exec (Row RowOk CvRow CvOk ShRow ShOk)
theorem var_res {ρ : Nat → Int} {op : BinOp} {a b : Int} {j : Nat} (h : Exec.opV op a b = some (.int .i64 (ρ j))) : ∃ v, Exec.opV op a b = some v ∧ ∀ η : Exec.Nv, η.ρ = ρ → Exec.SR η (vrS j) v := ⟨_, h, fun η hρ => by rw [← hρ]; exact .var (s := vrS j) .i64 rfl rfl⟩
theorem int_res {ρ : Nat → Int} {op : BinOp} {a b : Int} {n : Nat} (hn : n < 18446744073709551616) (h : Exec.opV op a b = some (.int .i64 (IntKind.i64.wrap n))) : ∃ v, Exec.opV op a b = some v ∧ ∀ η : Exec.Nv, η.ρ = ρ → Exec.SR η (inS n) v := ⟨_, h, fun _ _ => .int (s := inS n) .i64 rfl hn⟩
theorem boo_res {ρ : Nat → Int} {op : BinOp} {a b : Int} {t : Bool} (h : Exec.opV op a b = some (.bool t)) : ∃ v, Exec.opV op a b = some v ∧ ∀ η : Exec.Nv, η.ρ = ρ → Exec.SR η (boS t) v := ⟨_, h, fun _ _ => SR.bo t⟩
theorem kJ (n : Nat) (h : n ≤ 4096) : IntKind.i64.wrap (n : Int) = n := i64nI _ (by omega)
theorem rhoK1 (f : Nat → Int) (j : Nat) (h1 : j < 2000) : rhoK f j = f (j - 1000) := by unfold rhoK; rw [if_neg (by omega), if_neg (by omega), if_neg (by omega)]
theorem rhoK2 (f : Nat → Int) (j : Nat) (h0 : 2000 ≤ j) (h1 : j < 3000) : rhoK f j = 8 * f (j - 2000) := by unfold rhoK; rw [if_neg (by omega), if_neg (by omega), if_pos h0]
theorem rhoK3 (f : Nat → Int) (j : Nat) (h0 : 3000 ≤ j) (h1 : j < 4000) : rhoK f j = 64 * f (j - 3000) := by unfold rhoK; rw [if_neg (by omega), if_pos h0]
theorem rhoK4 (f : Nat → Int) (j : Nat) (h0 : 4000 ≤ j) : rhoK f j = 64 * f (j - 4000) + 32 := by unfold rhoK; rw [if_pos h0]
theorem specK_ok {f : Nat → Int} {W h n : Nat} (hW : 1 ≤ W ∧ W ≤ 128) (hh : 1 ≤ h ∧ h ≤ 128) (hn : n ≤ 1000) (hf : ∀ i, i < n → 0 ≤ f i ∧ f i ≤ 255) : Exec.SpecOk Tryz.prog (rhoK f) (specK W h n) :=
  Exec.specAdd_ok (Exec.at_one (at_lawN hW.1 hW.2 hh.1 hh.2) (by kernel_rfl) hW hh (fun i h0 h1 => by rw [rhoK1 f i (by omega)]; exact hf _ (by omega))) Exec.spec0_ok
def placesK : List Nat := [0, 32, 64, 96, 32768, 32800, 32832, 32864]
theorem places_of {c : Nat} (h : c ∈ placesK) : c % 1024 ≤ 96 ∧ c / 1024 ≤ 32 := by
  simp only [placesK, List.mem_cons, List.not_mem_nil, or_false] at h
  omega
set_option maxRecDepth 1000000 in
theorem luma_places : (placesK.all fun c => lumaK (c % 1024) (c / 1024)) = true := by kernel_rfl
set_option maxRecDepth 1000000 in
theorem chroma_places : (placesK.all fun c => chromaK (c % 1024) (c / 1024)) = true := by kernel_rfl
theorem luma_copies : ∀ c ∈ placesK, Exec.CopyLaw Tryz.prog 125 32 16 8 (c % 1024) (c / 1024) (Exec.srcN 32 8 4 (c % 1024) (c / 1024)) ∧ ∀ i, i < 8 * 8 → Exec.srcN 32 8 4 (c % 1024) (c / 1024) i < 32 * 16 := by
  intro c hc
  have hp := places_of hc
  have hs : ∀ i, i < 8 * 8 → Exec.srcN 32 8 4 (c % 1024) (c / 1024) i < 32 * 16 := fun i hi => by
    show (c / 1024 / 4 + i / 8) * 32 + (c % 1024 / 4 + i % 8) < 512
    omega
  refine ⟨Exec.copy_of_run (e := 3) (u := 5) (by kernel_rfl) (by kernel_rfl) (by kernel_rfl) (by decide) (by decide) (by decide) (by decide) (by omega) (by omega) hs fun f hf => ?_, hs⟩
  exact ⟨rhoK f, _, runQ_ok (Exec.hyF_ok Exec.noB_ok Exec.noC_ok Exec.noS_ok) (specK_ok (by decide) (by decide) (by decide) hf), fun i hi => by rw [rhoK1 f _ (by omega), show 1000 + i - 1000 = i by omega], List.all_eq_true.1 luma_places c hc⟩
theorem binK_ok {f : Nat → Int} (hf : ∀ i, i < 128 → 0 ≤ f i ∧ f i ≤ 255) : Exec.BinAt Tryz.prog (rhoK f) binK := by
  refine Exec.orF_ok (Exec.litF_ok fun j h0 h1 => ?_) (Exec.orF_ok (Exec.litF_ok fun j h0 h1 => ?_) (Exec.orF_ok (Exec.litF_ok fun j h0 h1 => ?_) (Exec.orF_ok (Exec.rtF_ok fun j h0 h1 => ?_) (Exec.orF_ok (Exec.rtF_ok fun j h0 h1 => ?_) (Exec.rtF_ok fun j h0 h1 => ?_)))))
  · have := hf (j - 1000) (by omega)
    refine var_res ?_
    show some (Value.int .i64 (IntKind.i64.wrap (IntKind.i64.wrap ((8 : Nat) : Int) * rhoK f j))) = some (Value.int .i64 (rhoK f (j + 1000)))
    rw [kJ 8 (by decide), rhoK1 f j (by omega), rhoK2 f _ (by omega) (by omega), show j + 1000 - 2000 = j - 1000 by omega, i64wI _ (by omega) (by omega)]
    rfl
  · have := hf (j - 2000) (by omega)
    refine var_res ?_
    show some (Value.int .i64 (IntKind.i64.wrap (IntKind.i64.wrap ((8 : Nat) : Int) * rhoK f j))) = some (Value.int .i64 (rhoK f (j + 1000)))
    rw [kJ 8 (by decide), rhoK2 f j h0 (by omega), rhoK3 f _ (by omega) (by omega), show j + 1000 - 3000 = j - 2000 by omega, i64wI _ (by omega) (by omega)]
    congr 2
    omega
  · refine int_res (by decide) ?_
    show some (Value.int .i64 (IntKind.i64.wrap (IntKind.i64.wrap ((0 : Nat) : Int) * rhoK f j))) = some (Value.int .i64 (IntKind.i64.wrap ((0 : Nat) : Int)))
    rw [kJ 0 (by decide), show ((0 : Nat) : Int) * rhoK f j = 0 by simp]
    rfl
  · have := hf (j - 2000) (by omega)
    refine var_res ?_
    show some (Value.int .i64 (IntKind.i64.wrap (rhoK f j + IntKind.i64.wrap ((0 : Nat) : Int)))) = some (Value.int .i64 (rhoK f j))
    rw [kJ 0 (by decide), rhoK2 f j h0 (by omega), i64wI _ (by omega) (by omega)]
    congr 2
    omega
  · have := hf (j - 3000) (by omega)
    refine var_res ?_
    show some (Value.int .i64 (IntKind.i64.wrap (rhoK f j + IntKind.i64.wrap ((0 : Nat) : Int)))) = some (Value.int .i64 (rhoK f j))
    rw [kJ 0 (by decide), rhoK3 f j h0 (by omega), i64wI _ (by omega) (by omega)]
    congr 2
    omega
  · have := hf (j - 3000) (by omega)
    refine var_res ?_
    show some (Value.int .i64 (IntKind.i64.wrap (rhoK f j + IntKind.i64.wrap ((32 : Nat) : Int)))) = some (Value.int .i64 (rhoK f (j + 1000)))
    rw [kJ 32 (by decide), rhoK3 f j h0 (by omega), rhoK4 f _ (by omega), show j + 1000 - 4000 = j - 3000 by omega, i64wI _ (by omega) (by omega)]
    rfl
theorem shK_ok {f : Nat → Int} (hf : ∀ i, i < 128 → 0 ≤ f i ∧ f i ≤ 255) : Exec.ShAt Tryz.prog (rhoK f) (Exec.shG 6 4000 128 (fun j => vrS (Nat.sub j 3000))) := by
  refine Exec.shG_ok fun j h0 h1 η hη => ?_
  have := hf (j - 4000) (by omega)
  have e : (rhoK f j).fdiv (2 ^ min 6 64) = rhoK f (j - 3000) := by
    rw [show ((2 : Int) ^ min 6 64) = 64 from rfl, rhoK4 f j h0, rhoK1 f _ (by omega), show j - 3000 - 1000 = j - 4000 by omega, Int.fdiv_eq_ediv_of_nonneg _ (by omega)]
    omega
  rw [e, ← hη]
  exact .var (s := vrS (Nat.sub j 3000)) .i64 rfl rfl
theorem chroma_copies : ∀ c ∈ placesK, Exec.CopyLaw Tryz.prog 126 16 8 4 (c % 1024) (c / 1024) (Exec.srcN 16 4 8 (c % 1024) (c / 1024)) ∧ ∀ i, i < 4 * 4 → Exec.srcN 16 4 8 (c % 1024) (c / 1024) i < 16 * 8 := by
  intro c hc
  have hp := places_of hc
  have hs : ∀ i, i < 4 * 4 → Exec.srcN 16 4 8 (c % 1024) (c / 1024) i < 16 * 8 := fun i hi => by
    show (c / 1024 / 8 + i / 4) * 16 + (c % 1024 / 8 + i % 4) < 128
    omega
  refine ⟨Exec.copy_of_run (e := 3) (u := 5) (by kernel_rfl) (by kernel_rfl) (by kernel_rfl) (by decide) (by decide) (by decide) (by decide) (by omega) (by omega) hs fun f hf => ?_, hs⟩
  exact ⟨rhoK f, _, runQ_ok (Exec.hyF_ok (binK_ok hf) Exec.noC_ok (shK_ok hf)) (specK_ok (by decide) (by decide) (by decide) hf), fun i hi => by rw [rhoK1 f _ (by omega), show 1000 + i - 1000 = i by omega], List.all_eq_true.1 chroma_places c hc⟩
theorem rhoM1 (f : Nat → Int) (j : Nat) (h1 : j < 2000) : rhoM f j = f (j - 1000) := by unfold rhoM; rw [if_neg (by omega), if_neg (by omega)]
theorem rhoM2 (f : Nat → Int) (j : Nat) (h0 : 2000 ≤ j) (h1 : j < 3000) : rhoM f j = 2 * f (j - 2000) := by unfold rhoM; rw [if_neg (by omega), if_pos h0]
theorem rhoM3 (f : Nat → Int) (j : Nat) (h0 : 3000 ≤ j) : rhoM f j = 2 * f (j - 3000) + 1 := by unfold rhoM; rw [if_pos h0]
theorem binM_ok {f : Nat → Int} {n : Nat} (hn : n ≤ 256) (hf : ∀ i, i < n → 0 ≤ f i ∧ f i ≤ 255) : Exec.BinAt Tryz.prog (rhoM f) (binM n) := by
  refine Exec.orF_ok (Exec.rtF_ok fun j h0 h1 => ?_) (Exec.orF_ok (Exec.rtF_ok fun j h0 h1 => ?_) (Exec.orF_ok (Exec.selfF_ok fun j h0 h1 => ?_) (Exec.rtF_ok fun j h0 h1 => ?_)))
  · have := hf (j - 1000) (by omega)
    refine boo_res ?_
    show some (Value.bool (decide (IntKind.i64.wrap ((0 : Nat) : Int) ≤ rhoM f j))) = some (Value.bool true)
    rw [kJ 0 (by decide), rhoM1 f j (by omega), decide_eq_true (by omega)]
  · have := hf (j - 1000) (by omega)
    refine boo_res ?_
    show some (Value.bool (decide (rhoM f j ≤ IntKind.i64.wrap ((255 : Nat) : Int)))) = some (Value.bool true)
    rw [kJ 255 (by decide), rhoM1 f j (by omega), decide_eq_true (by omega)]
  · have := hf (j - 1000) (by omega)
    refine var_res ?_
    show some (Value.int .i64 (IntKind.i64.wrap (rhoM f j + rhoM f j))) = some (Value.int .i64 (rhoM f (j + 1000)))
    rw [rhoM1 f j (by omega), rhoM2 f _ (by omega) (by omega), show j + 1000 - 2000 = j - 1000 by omega, i64wI _ (by omega) (by omega)]
    congr 2
    omega
  · have := hf (j - 2000) (by omega)
    refine var_res ?_
    show some (Value.int .i64 (IntKind.i64.wrap (rhoM f j + IntKind.i64.wrap ((1 : Nat) : Int)))) = some (Value.int .i64 (rhoM f (j + 1000)))
    rw [kJ 1 (by decide), rhoM2 f j h0 (by omega), rhoM3 f _ (by omega), show j + 1000 - 3000 = j - 2000 by omega, i64wI _ (by omega) (by omega)]
    rfl
theorem shM_ok {f : Nat → Int} {n : Nat} (hn : n ≤ 256) (hf : ∀ i, i < n → 0 ≤ f i ∧ f i ≤ 255) : Exec.ShAt Tryz.prog (rhoM f) (Exec.shG 1 3000 n (fun j => vrS (Nat.sub j 2000))) := by
  refine Exec.shG_ok fun j h0 h1 η hη => ?_
  have := hf (j - 3000) (by omega)
  have e : (rhoM f j).fdiv (2 ^ min 1 64) = rhoM f (j - 2000) := by
    rw [show ((2 : Int) ^ min 1 64) = 2 from rfl, rhoM3 f j h0, rhoM1 f _ (by omega), show j - 2000 - 1000 = j - 3000 by omega, Int.fdiv_eq_ediv_of_nonneg _ (by omega)]
    omega
  rw [e, ← hη]
  exact .var (s := vrS (Nat.sub j 2000)) .i64 rfl rfl
theorem mean_laws : ∀ n ∈ [64, 16], 1 ≤ n ∧ Exec.MeanLaw Tryz.prog 168 n := by
  have key : ∀ n, 1 ≤ n → n ≤ 256 → meanK n = true → Exec.MeanLaw Tryz.prog 168 n := fun n h0 h1 hr =>
    Exec.mean_of_run (e := 3) (by kernel_rfl) (by kernel_rfl) h0 h1 fun f hf => ⟨rhoM f, _, runQ_ok (Exec.hyF_ok (binM_ok h1 hf) Exec.noC_ok (shM_ok h1 hf)) Exec.spec0_ok, fun i hi => by rw [rhoM1 f _ (by omega), show 1000 + i - 1000 = i by omega], hr⟩
  intro n hn
  simp only [List.mem_cons, List.not_mem_nil, or_false] at hn
  rcases hn with rfl | rfl
  · exact ⟨by decide, key 64 (by decide) (by decide) mean_64⟩
  · exact ⟨by decide, key 16 (by decide) (by decide) mean_16⟩
/-- ReconCopies: the samples are variables from 712 on; the places in the argument from 200 on; its length variable 5. -/
def rhoB (n : Nat) (f : Nat → Int) (j : Nat) : Int := if 712 ≤ j then f ((j - 712) % n) else if 200 ≤ j then (((j - 200) % n : Nat) : Int) else n
noncomputable def binB (t : Bool) : BinOp → IntKind → Exec.Sc → Exec.Sc → Option Exec.Sc := Exec.orF (Exec.rtF .gtr 0 5 1 (fun _ => boS t)) (Bool.rec (motive := fun _ => BinOp → IntKind → Exec.Sc → Exec.Sc → Option Exec.Sc) (fun _ _ _ _ => none) (Exec.numF .rem 512 5 (fun i => vrS (Nat.add 200 i))) t)
noncomputable def hyB (t : Bool) : Exec.Hy := Exec.hyF (binB t) (Exec.orC (Exec.cvG .i64 .u8 712 512) (Exec.cvG .u8 .i64 712 512)) (fun _ _ _ _ => none)
noncomputable def specB : Nat → Option Exec.FnC := Exec.specAdd 125 (Exec.blockC 3 5 32 16 8 4 712 512 placesK) (Exec.specAdd 126 (Exec.blockC 3 5 16 8 4 8 712 512 placesK) (Exec.specAdd 168 (Exec.meanC 3 712 512 [64, 16]) specR))
noncomputable def argB (t : Bool) : Exec.V := Exec.vS ⟨103, 20, 5, Bool.rec (motive := fun _ => Nat) 0 512 t, 200, [], []⟩
noncomputable def copyRun (t bi : Bool) : Bool := Exec.okTrue (runQ (hyB t) specB 9 [argB t, Exec.vS (boS bi)] startR)
end Go.Proofs.YtcmehedjdfopdaaGreat
