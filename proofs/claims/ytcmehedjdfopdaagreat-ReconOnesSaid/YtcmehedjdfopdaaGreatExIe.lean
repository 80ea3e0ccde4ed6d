/-
  The runner over interp's Luma on an even plane: the sixteen places.
-/
import Derived.Test.YtcmehedjdfopdaaGreatExId
namespace Go.Proofs.YtcmehedjdfopdaaGreat
open Go.RowKit
open Go.Exec (Row RowOk CvRow CvOk ShRow ShOk)
def rhoL (x y v : Int) : Nat → Int
  | 0 => x | 1 => y | 2 => v | 30 => x / 4 | 31 => y / 4 | 40 => 2 * v | 41 => 2 * v + 1 | _ => 0
noncomputable def rowsD (dx dy : Nat) : List Row := [⟨.and, true, 0, false, 3, inS dx⟩, ⟨.and, true, 1, false, 3, inS dy⟩, ⟨.add, true, 2, true, 2, vrS 40⟩, ⟨.add, true, 40, false, 1, vrS 41⟩]
noncomputable def shsD : List ShRow := [⟨false, 0, 2, vrS 30⟩, ⟨false, 1, 2, vrS 31⟩, ⟨false, 41, 1, vrS 2⟩]
noncomputable def specL : Nat → Option Exec.FnC := Exec.specAdd 165 (Exec.plC 255 5 16 16 3 [2]) (Exec.specAdd 163 (Exec.askC 16 16 8 [0, 1]) Exec.spec0)
noncomputable def lumaR (dx dy : Nat) : Bool := Exec.evenOk 3 64 (runQ (Exec.hyS (rowsD dx dy) [] shsD []) specL 125 (Exec.evenArgs 16 16 8) (Exec.evenSt 5 256))
set_option maxRecDepth 1000000
theorem luma_00 : lumaR 0 0 = true := by kernel_rfl
theorem luma_12 : lumaR 1 2 = true := by kernel_rfl
end Go.Proofs.YtcmehedjdfopdaaGreat
