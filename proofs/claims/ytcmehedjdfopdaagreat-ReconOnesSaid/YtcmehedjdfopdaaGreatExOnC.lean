/-
  ReconOnes: a run (weights of scale 2).
-/
import Derived.Test.YtcmehedjdfopdaaGreatExOn
namespace Go.Proofs.YtcmehedjdfopdaaGreat
open Go.RowKit
set_option maxRecDepth 1000000
theorem one_run2 : oneRun 2 2 = true := by kernel_rfl
end Go.Proofs.YtcmehedjdfopdaaGreat
