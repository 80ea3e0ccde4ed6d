/-
  How much a string that came in may weigh.
-/
import Derived.Test.YtibojidpifgblaaDoorDoor3
namespace Go.Proofs.YtibojidpifgblaaDoor
open Go.RowKit
theorem reach_string {H : Type} {P : Program} {t : TypeId} {ts : List TypeId} {s : ByteArray} {r : List (DataW H)}
    (h : (DataW.weightsEach P (t :: ts) (.lit (.string s.data.toList) :: r)).all (· ≤ reachBytes) = true) : s.size ≤ 140737488355328 := by
  have h1 : s.data.toList.length ≤ reachBytes := by
    unfold DataW.weightsEach at h
    rw [List.all_append, Bool.and_eq_true] at h
    have h2 := h.1
    simp [DataW.weights] at h2
    simpa using h2
  have h3 : s.data.toList.length = s.size := by rw [Array.length_toList]; rfl
  unfold reachBytes at h1
  omega
end Go.Proofs.YtibojidpifgblaaDoor
