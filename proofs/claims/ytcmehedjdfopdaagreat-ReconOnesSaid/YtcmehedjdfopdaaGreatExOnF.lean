/-
  ReconOnes: a run (weights of scale 5).
-/
import Derived.Test.YtcmehedjdfopdaaGreatExOn
namespace Go.Proofs.YtcmehedjdfopdaaGreat
open Go.RowKit
set_option maxRecDepth 1000000
theorem one_run5 : oneRun 5 16 = true := by kernel_rfl
end Go.Proofs.YtcmehedjdfopdaaGreat
