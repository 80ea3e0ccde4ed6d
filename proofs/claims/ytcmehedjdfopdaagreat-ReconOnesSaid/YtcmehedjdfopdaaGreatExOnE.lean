/-
  ReconOnes: a run (weights of scale 4).
-/
import Derived.Test.YtcmehedjdfopdaaGreatExOn
namespace Go.Proofs.YtcmehedjdfopdaaGreat
open Go.RowKit
set_option maxRecDepth 1000000
theorem one_run4 : oneRun 4 8 = true := by kernel_rfl
end Go.Proofs.YtcmehedjdfopdaaGreat
