/-
  A slice of bytes that comes in. SyntaxPcms: the law.
-/
import Derived.Test.YtcppbdlmcbjmeaaGreatDoorJ08
import Derived.Test.YtcppbdlmcbjmeaaGreatDoorJ46
import Derived.Test.YtcppbdlmcbjmeaaGreatDoorJ43
namespace Go.Proofs.YtcppbdlmcbjmeaaGreatDoor
open Go.ChangeShapes Go.WideShapes Go.ChangeAt Go.RowKit

/-- A slice of bytes that came in. -/
theorem open_byteList {H : Type} {enc : TypeId × Value → H} {P : Program} {ts te : TypeId} {W : World} {r : Reach} {b0 : Nat} {v : Value} {d : DataW H} {p : List MemPlace} (hts : P.underlying ts = some (.slice te)) (hte : P.underlying te = some (.int .u8)) (hce : P.cellsOf te = 1)
    (hval : Value.okWide P W r b0 ts v)
    (h : DataW.Trod enc P W 0 (fun _ => true) true ts v d p) : ∃ xs : List Int, ByteSlice W v xs ∧ xs.length ≤ maxLen ∧ ((d = .nil ∧ xs = []) ∨ ∃ sp, d = .slice (lits .u8 xs) (lits .u8 sp)) ∧ (∀ n ∈ xs, (Lit.int .u8 n).wf = true) := by
  obtain ⟨a0, len0, cap0, rfl⟩ := okWide_slice hts hval
  obtain ⟨n, hf⟩ := h
  rcases open_ints hts hte hce hf with ⟨hcs, hx⟩ | ⟨a, len, cap, zs, hcs, _, hl, hm, hz, hx, hcell, hwz⟩
  · simp [Value.cells] at hcs
    obtain ⟨rfl, rfl, rfl⟩ := hcs
    simp only [Prod.mk.injEq] at hx
    exact ⟨[], ⟨_, _, rfl, .inl rfl⟩, by simp, .inl ⟨hx.1, rfl⟩, by simp⟩
  · simp [Value.cells] at hcs
    obtain ⟨rfl, rfl, rfl⟩ := hcs
    simp only [Prod.mk.injEq] at hx
    have hz2 : zs.length = cap0 := by simpa using hz
    have hlen : (zs.take len0).length = len0 := by rw [List.length_take]; omega
    refine ⟨zs.take len0, ⟨some a, cap0, by rw [hlen], ?_⟩, by rw [hlen]; omega, .inr ⟨_, hx.1⟩, fun n hn => hwz n (List.mem_of_mem_take hn)⟩
    by_cases h0 : len0 = 0
    · left
      exact List.eq_nil_of_length_eq_zero (by omega)
    · right
      have hsp := World.cell?_spot (hcell 0 (by omega))
      have hspot : a.spot = none := by
        unfold Addr.add at hsp
        split at hsp <;> simp_all
      obtain ⟨g, off, sp⟩ := a
      simp only at hspot
      subst hspot
      refine ⟨g, off, rfl, fun i hi => ?_⟩
      have := hcell i (by omega)
      rw [add_plain] at this
      rw [this]
      simp only [List.getD]
      rw [List.getElem?_take_of_lt (by omega)]
end Go.Proofs.YtcppbdlmcbjmeaaGreatDoor

namespace Go.Proofs.YtcppbdlmcbjmeaaGreatDoor
open Go.RowKit

theorem byte_range {xs : List Int} (h : ∀ n ∈ xs, (Lit.int .u8 n).wf = true) (i : Nat) : 0 ≤ xs.getD i 0 ∧ xs.getD i 0 ≤ 255 := by
  by_cases hi : i < xs.length
  · have h2 := h (xs.getD i 0) (by simp [List.getD, List.getElem?_eq_getElem hi])
    generalize xs.getD i 0 = x at h2
    simp only [Lit.wf, IntKind.min, IntKind.max, IntKind.signed, IntKind.bits, Bool.and_eq_true] at h2
    simp at h2
    omega
  · rw [List.getD_eq_getElem?_getD, List.getElem?_eq_none (by omega)]
    decide
theorem law_pcms {xs : List Int} {v : Value} {cb : Bool} {W : World} (hA : Asc W) (hS : ByteSlice W v xs) (hl : xs.length ≤ maxLen) (hx : ∀ n ∈ xs, (Lit.int .u8 n).wf = true) : Calls Tryz.prog 6 #[v, .bool cb] W fun e w' => e = .returned (.bool true) ∧ Only [] W w' :=
  walk_pcms hA (walk_awake hA) hS (by unfold maxLen at hl; omega) (byte_range hx)
end Go.Proofs.YtcppbdlmcbjmeaaGreatDoor
