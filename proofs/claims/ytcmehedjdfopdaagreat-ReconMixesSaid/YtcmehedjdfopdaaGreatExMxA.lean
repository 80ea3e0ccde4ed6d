/-
  ReconMixes: a run (way 0, no weights told).
-/
import Derived.Test.YtcmehedjdfopdaaGreatExMx
namespace Go.Proofs.YtcmehedjdfopdaaGreat
open Go.RowKit
set_option maxRecDepth 1000000
theorem mix_0_0 : mixRun (rowsL ++ (rowsX)) (shsX) 0 (Exec.badF) 0 = true := by kernel_rfl
end Go.Proofs.YtcmehedjdfopdaaGreat
