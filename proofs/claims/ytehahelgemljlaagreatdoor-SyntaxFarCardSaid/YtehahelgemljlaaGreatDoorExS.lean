/-
  The world at a law's beginning as the runner has it: the one table that is read.
-/
import Derived.Test.YtehahelgemljlaaGreatDoorCards
import Derived.Test.YtehahelgemljlaaGreatDoorTie
import Derived.Test.YtehahelgemljlaaGreatDoorExP
import Derived.Deep.DeepHandedRow
import Derived.Deep.DeepWitnessRowRef
import Derived.Lib.LaidTab
import Derived.Lib.Space
import Derived.Stop.LaidErr
import Derived.MakeChecks
import Derived.Lay
namespace Go.Proofs.YtehahelgemljlaaGreatDoor
open Go.RowKit

theorem own : ownKnob Tryz.prog.godebug = none := by kernel_rfl
def laidL : List (String × DataW Unit) := [("unicode.White_Space", Rows.laid_unicode_White_Space), ("strings.asciiSpace", Rows.laid_strings_asciiSpace)]
noncomputable def laidWorld (os : Os) : World := World.laidAll Tryz.prog os laidL
theorem laid_met (os : Os) (args : Array Value) : laidMet Tryz.prog laidL ((laidWorld os).forCall (fun _ _ => 0) ⟨#[], args, []⟩).memory :=
  laidMet_laidAll _ (by kernel_rfl) (by kernel_rfl)
theorem asc_datum : (Rows.laid_strings_asciiSpace : DataW Unit) = Lib.tabData .u8 Lib.asciiSpaceTab := by kernel_rfl
theorem laid_asc {W : World} (h : laidMetH Tryz.prog laidL W) : ∃ t', W.heap[0]? = some (.cells (Lib.asciiSpaceTab.map fun z => Value.int .u8 z).toArray t' (0, 0)) := by
  rw [MakeChecks.laidMetH_plain _ _ _ (by kernel_rfl)] at h
  have h2 := laidMet.tail h
  rw [asc_datum] at h2
  exact Exec.laid_block (rest := []) (t := 254) (e := 5) (n := 256) (by kernel_rfl) (by kernel_rfl) Tryz.underlying254 Tryz.underlying5 (by kernel_rfl) (by kernel_rfl) (by rw [Lib.asciiSpaceTab_length]; decide) h2
noncomputable def isSpN (i : Nat) : Nat := Bool.rec (motive := fun _ => Nat) 0 1 (Bool.or (Nat.beq i 32) (Bool.and (Nat.ble 9 i) (Nat.ble i 13)))
noncomputable def startS : Exec.St := Exec.globSt 0 5 256 isSpN
theorem start_start : Exec.Start startS [0] := Exec.glob_start (by decide)
theorem isSpN_tab : ∀ i, i < 256 → isSpN i < 256 ∧ Lib.asciiSpaceTab[i]? = some (isSpN i : Int) := by
  intro i hi
  have h1 : ((List.range 256).all fun i => Nat.blt (isSpN i) 256 && (match Lib.asciiSpaceTab[i]? with | some z => z == (isSpN i : Int) | none => false)) = true := by kernel_rfl
  have h2 := (List.all_eq_true.1 h1) i (List.mem_range.2 hi)
  simp only [Bool.and_eq_true] at h2
  obtain ⟨h3, h4⟩ := h2
  refine ⟨Exec.blt_ok h3, ?_⟩
  split at h4
  · rename_i z hz
    rw [hz, eq_of_beq h4]
  · cases h4
theorem start_rep (ρ : Nat → Int) {W : World} (h : laidMetH Tryz.prog laidL W) : Exec.Rep Tryz.prog (Exec.globNv ρ 0 256) startS W := by
  obtain ⟨t', ht⟩ := laid_asc h
  exact Exec.glob_rep (by decide) Lib.asciiSpaceTab_length (by decide) (by kernel_rfl) ht isSpN_tab
/-- A runner with known answers. -/
noncomputable def runW (H : Exec.Hy) (sp : Nat → Option Exec.FnC) : Exec.Caller := Exec.callN drawS H Tryz.prog (Exec.mthP Tryz.prog) sp idleS 200
theorem runW_ok {ρ : Nat → Int} {H : Exec.Hy} {sp : Nat → Option Exec.FnC} (hH : Exec.HyAt Tryz.prog ρ H) (hS : Exec.SpecOk Tryz.prog ρ sp) : Exec.Cal Tryz.prog ρ (runW H sp) := Exec.callN_ok idleS_ok hH Exec.mthP_ok (draw_ok ρ _ hH) hS 200
/-- A law from the start. -/
theorem law_run {ρ : Nat → Int} {H : Exec.Hy} {sp : Nat → Option Exec.FnC} (hH : Exec.HyAt Tryz.prog ρ H) (hS : Exec.SpecOk Tryz.prog ρ sp) {g : Nat} {vs : List Exec.V} {args : List Value} {W : World} (hL : laidMetH Tryz.prog laidL W)
    (hv : Exec.VRL (Exec.globNv ρ 0 256) vs args) (hg : Exec.fnOk Tryz.prog g = true) (h : Exec.okTrue (runW H sp g vs startS) = true) : Calls Tryz.prog g args.toArray W fun e w' => e = .returned (.bool true) ∧ Only [] W w' :=
  (Exec.closed_glob (runW_ok hH hS) start_start rfl hv (start_rep ρ hL) (Exec.fnOk_enter hg _ W) h).mono fun _ _ ⟨h1, h2, h3, h4, h5, h6⟩ => ⟨h1, h2, h3, h4, h5, fun k hk _ => h6 k hk⟩
/-- An answer that is known, found by a run from the start. -/
theorem memo_run (ρ : Nat → Int) {sp : Nat → Option Exec.FnC} (hS : Exec.SpecOk Tryz.prog ρ sp) {g : Nat} {vs0 : List Exec.V} {v0 : Exec.V} (h : Exec.okMemo startS [0] v0 (runW Exec.hy0 sp g vs0 startS) = true) : Exec.Memo Tryz.prog ρ startS [0] g vs0 v0 :=
  fun _ _ _ _ _ hρ hv hR hm hg => Exec.memo_ok (runW_ok Exec.hy0_ok hS) start_start h hρ hv hR hm hg
noncomputable def memoS (es : List (List Exec.V × Exec.V)) : Exec.FnC := Exec.memoC startS [0] es Exec.badF
theorem memoS_one {ρ : Nat → Int} {g : Nat} {es : List (List Exec.V × Exec.V)} (h : ∀ e ∈ es, Exec.Memo Tryz.prog ρ startS [0] g e.1 e.2) : Exec.OneOk Tryz.prog ρ g (memoS es) := Exec.memo_one Exec.bad_one h
end Go.Proofs.YtehahelgemljlaaGreatDoor
