/-
  The program's slices of bytes and of ints, their elements.
-/
import Derived.Test.YtibojidpifgblaaDoorRows
import Derived.Test.YtibojidpifgblaaDoorLib
namespace Go.Proofs.YtibojidpifgblaaDoor
open Go.RowKit

theorem elt64 : Elt Tryd.prog 28 3 (.int .i64 0) 1 8 := ⟨Tryd.underlying28, by kernel_rfl, rfl, by decide⟩
theorem elt8 : Elt Tryd.prog 44 5 (.int .u8 0) 1 1 := ⟨Tryd.underlying44, by kernel_rfl, rfl, by decide⟩
end Go.Proofs.YtibojidpifgblaaDoor
