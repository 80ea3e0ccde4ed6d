/-
  ReconOnes: a run (weights of scale 0).
-/
import Derived.Test.YtcmehedjdfopdaaGreatExOn
namespace Go.Proofs.YtcmehedjdfopdaaGreat
open Go.RowKit
set_option maxRecDepth 1000000
theorem one_run0 : oneRun 0 0 = true := by kernel_rfl
end Go.Proofs.YtcmehedjdfopdaaGreat
