/-
  ReconMixes: a run (way 0, four weights told).
-/
import Derived.Test.YtcmehedjdfopdaaGreatExMx
namespace Go.Proofs.YtcmehedjdfopdaaGreat
open Go.RowKit
set_option maxRecDepth 1000000
theorem mix_0_1 : mixRun (rowsG ++ (rowsX)) (shsX) 0 (Exec.badF) 4 = true := by kernel_rfl
end Go.Proofs.YtcmehedjdfopdaaGreat
