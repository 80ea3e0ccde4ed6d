/-
  ReconOnes: a run (weights of scale 7).
-/
import Derived.Test.YtcmehedjdfopdaaGreatExOn
namespace Go.Proofs.YtcmehedjdfopdaaGreat
open Go.RowKit
set_option maxRecDepth 1000000
theorem one_run7 : oneRun 7 64 = true := by kernel_rfl
end Go.Proofs.YtcmehedjdfopdaaGreat
