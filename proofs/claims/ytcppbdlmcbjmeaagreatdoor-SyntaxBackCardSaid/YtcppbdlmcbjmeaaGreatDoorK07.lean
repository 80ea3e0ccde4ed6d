/- Lemmas that the law needs, part 7. -/
import Derived.Test.YtcppbdlmcbjmeaaGreatDoorCards
import Derived.Test.YtcppbdlmcbjmeaaGreatDoorTie
import Derived.Test.YtcppbdlmcbjmeaaGreatDoorK06
import Derived.Deep.DeepHandedRow
import Derived.Deep.DeepWitnessRowRef
import Derived.Lib.LaidTab
import Derived.Stop.LaidErr
import Derived.MakeChecks
import Derived.Lay
import Derived.ProofKit
import Derived.OpenShut
import Derived.ShutString
import Derived.Carry
namespace Go.Proofs.YtcppbdlmcbjmeaaGreatDoor
open Go.RowKit
theorem own:ownKnob Tryz.prog.godebug=none:=by kernel_rfl
end Go.Proofs.YtcppbdlmcbjmeaaGreatDoor
namespace Go.Proofs.YtcppbdlmcbjmeaaGreatDoor
open Go.ChangeShapes Go.WideShapes Go.ChangeAt Go.RowKit
end Go.Proofs.YtcppbdlmcbjmeaaGreatDoor
