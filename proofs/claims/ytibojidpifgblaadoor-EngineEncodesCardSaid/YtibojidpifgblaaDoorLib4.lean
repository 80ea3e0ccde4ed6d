/-
  More of my own small library: the text of an owned slice of bytes.
-/
import Derived.Test.YtibojidpifgblaaDoorLib3
import Derived.Laws.BytesArg
namespace Go.Proofs.YtibojidpifgblaaDoor
open Go.RowKit

/-- The text of a slice of bytes that the call itself has made. -/
theorem run_text {P : Program} {w : World} {B src e dst : TypeId} {v : Value} {xs : List Int} (hs : P.underlying src = some (.slice e)) (he : P.underlying e = some (.int .u8)) (hd : P.underlying dst = some .string)
    (hown : w.ownsRow B e 1 v xs.length (xs.map (Value.int .u8))) : (convert src dst v).run P w = .ok (.string (strOfNums xs)) w := by
  rcases hown.2 with ⟨rfl, h⟩ | ⟨g, cap, cur, rfl, _⟩
  · have : xs = [] := List.eq_nil_of_length_eq_zero h
    subst this
    exact run_convert_bytes_nil w src e hs he 0 0 dst hd
  · refine run_convert_bytes_arg w src e hs he g 0 xs.length cap xs rfl ?_ dst hd
    intro i hi
    rw [Nat.zero_add, hown.cellAt i (by omega)]
    simp [List.getElem?_eq_getElem hi]
end Go.Proofs.YtibojidpifgblaaDoor
