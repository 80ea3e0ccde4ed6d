/-
  ReconMixes: a run (way 2, no weights told).
-/
import Derived.Test.YtcmehedjdfopdaaGreatExMx
namespace Go.Proofs.YtcmehedjdfopdaaGreat
open Go.RowKit
set_option maxRecDepth 1000000
theorem mix_2_0 : mixRun (rowsL ++ (rows2 ++ (rowsW ++ rowsX))) (shsW ++ shsX) 2 (clipC [(30, vrS 32)]) 0 = true := by kernel_rfl
end Go.Proofs.YtcmehedjdfopdaaGreat
