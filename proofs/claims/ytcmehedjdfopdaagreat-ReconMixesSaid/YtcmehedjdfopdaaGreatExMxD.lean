/-
  ReconMixes: a run (way 1, four weights told).
-/
import Derived.Test.YtcmehedjdfopdaaGreatExMx
namespace Go.Proofs.YtcmehedjdfopdaaGreat
open Go.RowKit
set_option maxRecDepth 1000000
theorem mix_1_1 : mixRun (rowsG ++ (rows4 ++ (rowsW ++ rowsX))) (shs4 ++ (shsW ++ shsX)) 1 (clipC [(31, vrS 32)]) 4 = true := by kernel_rfl
end Go.Proofs.YtcmehedjdfopdaaGreat
