/-
  ReconOnes: a run (weights of scale 1).
-/
import Derived.Test.YtcmehedjdfopdaaGreatExOn
namespace Go.Proofs.YtcmehedjdfopdaaGreat
open Go.RowKit
set_option maxRecDepth 1000000
theorem one_run1 : oneRun 1 1 = true := by kernel_rfl
end Go.Proofs.YtcmehedjdfopdaaGreat
