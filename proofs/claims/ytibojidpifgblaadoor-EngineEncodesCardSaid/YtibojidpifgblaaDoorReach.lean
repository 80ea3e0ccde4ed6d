/-
  How much a string, a slice of ints that came in may weigh.
-/
import Derived.Test.YtibojidpifgblaaDoorDoor3
namespace Go.Proofs.YtibojidpifgblaaDoor
open Go.RowKit
theorem reach_string {H : Type} {P : Program} {t : TypeId} {ts : List TypeId} {s : ByteArray} {r : List (DataW H)}
    (h : (DataW.weightsEach P (t :: ts) (.lit (.string s.data.toList) :: r)).all (· ≤ reachBytes) = true) : s.size ≤ 140737488355328 := by
  have h1 : s.data.toList.length ≤ reachBytes := by
    unfold DataW.weightsEach at h
    rw [List.all_append, Bool.and_eq_true] at h
    have h2 := h.1
    simp [DataW.weights] at h2
    simpa using h2
  have h3 : s.data.toList.length = s.size := by rw [Array.length_toList]; rfl
  unfold reachBytes at h1
  omega
/-- How long a slice of ints that came in may be. -/
theorem reach_ints {H : Type} {P : Program} {t te : TypeId} {ts : List TypeId} {d : DataW H} {xs : List Int} {r : List (DataW H)} (hts : P.underlying t = some (.slice te)) (hb : P.bytesOf te = 8)
    (hd : (d = .nil ∧ xs = []) ∨ ∃ sp, d = .slice (Go.ChangeShapes.lits .i64 xs) (Go.ChangeShapes.lits .i64 sp))
    (h : (DataW.weightsEach P (t :: ts) (d :: r)).all (· ≤ reachBytes) = true) : xs.length ≤ 17592186043904 := by
  rcases hd with ⟨_, rfl⟩ | ⟨sp, rfl⟩
  · simp
  · unfold DataW.weightsEach at h
    rw [List.all_append, Bool.and_eq_true] at h
    have h2 := h.1
    simp only [DataW.weights, hts, hb, List.all_cons, Bool.and_eq_true, decide_eq_true_eq] at h2
    have h3 := h2.1
    have h4 : (Go.ChangeShapes.lits (H := H) .i64 xs).length = xs.length := by simp [Go.ChangeShapes.lits]
    rw [h4] at h3
    unfold reachBytes at h3
    omega
end Go.Proofs.YtibojidpifgblaaDoor
