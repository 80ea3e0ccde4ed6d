/-
  The runner over interp's half on an even plane: every kind gives the plane's one sample.
-/
import Derived.Test.YtcmehedjdfopdaaGreatExIa
import Derived.Test.YtcmehedjdfopdaaGreatExMx
namespace Go.Proofs.YtcmehedjdfopdaaGreat
open Go.RowKit
open Go.Exec (Row RowOk CvRow CvOk ShRow ShOk)
def rhoI (x y v k : Int) : Nat → Int
  | 0 => x | 1 => y | 2 => v | 3 => k
  | 10 => 5 * v | 11 => 20 * v | 12 => v - 5 * v | 13 => 16 * v | 14 => 36 * v | 15 => 31 * v | 16 => 32 * v | 17 => 32 * v + 16
  | 20 => 160 * v | 21 => 640 * v | 22 => -128 * v | 23 => 512 * v | 24 => 1152 * v | 25 => 992 * v | 26 => 1024 * v | 27 => 1024 * v + 512
  | _ => 0
noncomputable def rowsI : List Row := [⟨.mul, false, 5, true, 2, vrS 10⟩, ⟨.mul, false, 20, true, 2, vrS 11⟩, ⟨.sub, true, 2, true, 10, vrS 12⟩, ⟨.add, true, 12, true, 11, vrS 13⟩, ⟨.add, true, 13, true, 11, vrS 14⟩, ⟨.sub, true, 14, true, 10, vrS 15⟩, ⟨.add, true, 15, true, 2, vrS 16⟩, ⟨.add, true, 16, false, 16, vrS 17⟩,
  ⟨.mul, false, 5, true, 16, vrS 20⟩, ⟨.mul, false, 20, true, 16, vrS 21⟩, ⟨.sub, true, 16, true, 20, vrS 22⟩, ⟨.add, true, 22, true, 21, vrS 23⟩, ⟨.add, true, 23, true, 21, vrS 24⟩, ⟨.sub, true, 24, true, 20, vrS 25⟩, ⟨.add, true, 25, true, 16, vrS 26⟩, ⟨.add, true, 26, false, 512, vrS 27⟩]
noncomputable def shsI : List ShRow := [⟨false, 17, 5, vrS 2⟩, ⟨false, 27, 10, vrS 2⟩]
noncomputable def specI (W h : Nat) : Nat → Option Exec.FnC := Exec.specAdd 166 (Exec.plC 255 5 W h 2 [2]) (Exec.specAdd 183 (Exec.varC [(2, vrS 2)] Exec.badF) Exec.spec0)
noncomputable def halfR (k : Exec.V) : Bool := Exec.isV2 (runQ (Exec.hyS rowsI [] shsI []) (specI 16 16) 165 [Exec.vS ⟨4, 256, 0, 0, 0, [], []⟩, Exec.mkVar 0, Exec.mkVar 1, k] (Exec.planeSt 255 5 16 16))
set_option maxRecDepth 1000000
theorem half_g : halfR (Exec.litV 71) = true := by kernel_rfl
theorem half_b : halfR (Exec.litV 98) = true := by kernel_rfl
theorem half_h : halfR (Exec.litV 104) = true := by kernel_rfl
theorem half_m : halfR (Exec.litV 109) = true := by kernel_rfl
theorem half_s : halfR (Exec.litV 115) = true := by kernel_rfl
theorem half_r : halfR (Exec.litV 114) = true := by kernel_rfl
theorem half_l : halfR (Exec.litV 108) = true := by kernel_rfl
theorem half_j : halfR (Exec.litV 106) = true := by kernel_rfl
end Go.Proofs.YtcmehedjdfopdaaGreat
