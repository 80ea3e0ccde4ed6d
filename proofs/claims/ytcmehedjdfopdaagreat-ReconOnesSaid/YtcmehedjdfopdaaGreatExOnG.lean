/-
  ReconOnes: a run (weights of scale 6).
-/
import Derived.Test.YtcmehedjdfopdaaGreatExOn
namespace Go.Proofs.YtcmehedjdfopdaaGreat
open Go.RowKit
set_option maxRecDepth 1000000
theorem one_run6 : oneRun 6 32 = true := by kernel_rfl
end Go.Proofs.YtcmehedjdfopdaaGreat
