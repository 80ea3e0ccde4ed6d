/-
  ReconCopies: a run (samples told: true; of two lists: false).
-/
import Derived.Test.YtcmehedjdfopdaaGreatExCb
namespace Go.Proofs.YtcmehedjdfopdaaGreat
open Go.RowKit
set_option maxRecDepth 1000000
theorem copy_runC : copyRun true false = true := by kernel_rfl
end Go.Proofs.YtcmehedjdfopdaaGreat
