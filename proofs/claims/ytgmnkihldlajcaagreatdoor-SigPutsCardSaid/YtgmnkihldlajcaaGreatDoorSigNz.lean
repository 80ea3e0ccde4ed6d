/-
  Plain Lean: a block's acts in the document's order. No program is named.
-/
import Derived.Test.YtgmnkihldlajcaaGreatDoorSigFit
namespace Go.Proofs.YtgmnkihldlajcaaGreatDoor

/-- The places below k that are not 0, the greatest first. -/
def nzDown (cs : List Int) : Nat → List Nat
  | 0 => []
  | k + 1 => if cs.getD k 0 ≠ 0 then k :: nzDown cs k else nzDown cs k
theorem placeOut_nz (cs : List Int) (last : Int) (m : Nat) : ∀ i, i + m + 1 = cs.length → last = lastOf cs → (i : Int) ≤ last → (placeOut cs last i m).reverse ++ nzDown cs i = nzDown cs (last + 1).toNat := by
  induction m with
  | zero =>
    intro i hi hl hle
    have hr := lastTo_range cs cs.length
    have h1 : last = (i : Int) := by unfold lastOf at hl; omega
    have h2 := lastTo_at cs cs.length (by unfold lastOf at hl; omega)
    have h3 : (lastTo cs cs.length).toNat = i := by unfold lastOf at hl; omega
    rw [h3] at h2
    rw [show (last + 1).toNat = i + 1 by omega]
    unfold placeOut
    rw [nzDown, if_pos h2]
    rfl
  | succ m ih =>
    intro i hi hl hle
    have hlt := lastTo_at cs cs.length (by unfold lastOf at hl; omega)
    unfold placeOut
    split
    · rename_i h0
      have hne : (i : Int) ≠ last := by
        intro he
        apply hlt
        have : (lastTo cs cs.length).toNat = i := by unfold lastOf at hl; omega
        rw [this]; exact h0
      have := ih (i + 1) (by omega) hl (by omega)
      rw [nzDown, if_neg (by simpa using h0)] at this
      exact this
    · rename_i h0
      by_cases he : (i : Int) = last
      · rw [if_pos he, show (last + 1).toNat = i + 1 by omega, nzDown, if_pos h0]
        rfl
      · rw [if_neg he]
        have := ih (i + 1) (by omega) hl (by omega)
        rw [nzDown, if_pos h0] at this
        rw [← this]
        simp
theorem coefDeeds_nz (cs : List Int) (cat : Int) (h : 0 ≤ lastOf cs) (hn : 0 < cs.length) : coefDeeds cs cat (placeOut cs (lastOf cs) 0 (cs.length - 1)).reverse 0 = coefDeeds cs cat (nzDown cs (lastOf cs + 1).toNat) 0 := by
  have := placeOut_nz cs (lastOf cs) (cs.length - 1) 0 (by omega) rfl (by omega)
  rw [nzDown, List.append_nil] at this
  rw [this]
/-- What is left of the places, from i on. -/
def restPlaces (cs : List Int) (last : Int) (i m : Nat) : List Deed := if (i : Int) ≤ last then placeDeeds cs last i m else []
theorem rest_end (cs : List Int) (last : Int) (i m : Nat) (h : m = 0 ∨ last < i) : restPlaces cs last i m = [] := by
  unfold restPlaces
  rcases h with rfl | h
  · split <;> rfl
  · rw [if_neg (by omega)]
theorem rest_zero (cs : List Int) (i m : Nat) (hle : (i : Int) ≤ lastOf cs) (h0 : cs.getD i 0 = 0) : restPlaces cs (lastOf cs) i (m + 1) = elemDeeds 15 (incAt i) 0 1 ++ restPlaces cs (lastOf cs) (i + 1) m := by
  have hlt := lastTo_at cs cs.length (by unfold lastOf at hle; omega)
  have hne : (i : Int) ≠ lastOf cs := by
    intro he
    apply hlt
    have : (lastTo cs cs.length).toNat = i := by unfold lastOf at he; omega
    rw [this]; exact h0
  unfold restPlaces
  rw [if_pos hle, if_pos (by omega), placeDeeds, if_pos h0]
theorem rest_last (cs : List Int) (i m : Nat) (he : (i : Int) = lastOf cs) (h0 : cs.getD i 0 ≠ 0) : restPlaces cs (lastOf cs) i (m + 1) = elemDeeds 15 (incAt i) 1 1 ++ (elemDeeds 16 (incAt i) 1 1 ++ restPlaces cs (lastOf cs) (i + 1) m) := by
  unfold restPlaces
  rw [if_pos (by omega), if_neg (by omega), placeDeeds, if_neg h0, if_pos he, decide_eq_true he]
  rfl
theorem rest_more (cs : List Int) (i m : Nat) (hle : (i : Int) ≤ lastOf cs) (he : (i : Int) ≠ lastOf cs) (h0 : cs.getD i 0 ≠ 0) : restPlaces cs (lastOf cs) i (m + 1) = elemDeeds 15 (incAt i) 1 1 ++ (elemDeeds 16 (incAt i) 0 1 ++ restPlaces cs (lastOf cs) (i + 1) m) := by
  unfold restPlaces
  rw [if_pos hle, if_pos (by omega), placeDeeds, if_neg h0, if_neg he, decide_eq_false he]
  rfl
/-- The greatest number plays no part for flags and great numbers. -/
theorem elemDeeds_most (el inc v : Int) (h : kindOf el = 1 ∨ kindOf el = 4) : elemDeeds el inc v 0 = elemDeeds el inc v 1 := by
  unfold elemDeeds bitsL
  rcases h with h | h
  · rw [h]; rfl
  · rw [h]; rfl
theorem bitsE_most (el v : Int) (h : kindOf el = 1 ∨ kindOf el = 4) : bitsE el v 0 = bitsE el v 1 := by
  unfold bitsE
  rcases h with h | h
  · rw [h]; rfl
  · rw [h]; rfl
theorem bits15 (el v : Int) (he : kindOf el = 1) (h : v = 0 ∨ v = 1) : bitsE el v 1 = 0 := by
  unfold bitsE
  rw [he, if_pos (by rcases h with rfl | rfl <;> rfl)]
theorem rankOf_le (cat : Int) (g : Nat) : rankOf cat g ≤ 7 := by
  unfold rankOf
  have := flagOf_bit (decide (1 < cat))
  omega
theorem kinds8 : kindOf 14 = 1 ∧ kindOf 15 = 1 ∧ kindOf 16 = 1 ∧ kindOf 17 = 4 := by decide
end Go.Proofs.YtgmnkihldlajcaaGreatDoor
