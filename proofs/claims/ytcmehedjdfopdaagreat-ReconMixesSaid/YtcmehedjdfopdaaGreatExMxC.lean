/-
  ReconMixes: a run (way 1, no weights told).
-/
import Derived.Test.YtcmehedjdfopdaaGreatExMx
namespace Go.Proofs.YtcmehedjdfopdaaGreat
open Go.RowKit
set_option maxRecDepth 1000000
theorem mix_1_0 : mixRun (rowsL ++ (rows3 ++ (rowsW ++ rowsX))) (shsW ++ shsX) 1 (clipC [(31, vrS 32)]) 0 = true := by kernel_rfl
end Go.Proofs.YtcmehedjdfopdaaGreat
