/-
  ReconOnes: a run (weights of scale 3).
-/
import Derived.Test.YtcmehedjdfopdaaGreatExOn
namespace Go.Proofs.YtcmehedjdfopdaaGreat
open Go.RowKit
set_option maxRecDepth 1000000
theorem one_run3 : oneRun 3 4 = true := by kernel_rfl
end Go.Proofs.YtcmehedjdfopdaaGreat
