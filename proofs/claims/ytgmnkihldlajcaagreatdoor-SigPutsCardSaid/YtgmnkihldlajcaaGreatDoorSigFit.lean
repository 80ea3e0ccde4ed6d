/-
  Plain Lean: which blocks may be; their acts fit; how many they are. No program is named.
-/
import Derived.Test.YtgmnkihldlajcaaGreatDoorSigSpec
namespace Go.Proofs.YtgmnkihldlajcaaGreatDoor

theorem elemDeeds_fits (el inc v most : Int) (h0 : 0 ≤ el) (h1 : el ≤ 19) (h2 : 0 ≤ inc) : ∀ o ∈ elemDeeds el inc v most, o.fits 256 := deedsL_fits el inc _ h0 h1 h2 0 (bitsL_letter el v most)
theorem elemDeeds_length (el inc v most : Int) : (elemDeeds el inc v most).length ≤ 100 := by
  unfold elemDeeds
  rw [deedsL_length]
  exact bitsL_length el v most
theorem byp_fits (b : Bool) : (Deed.byp (flagOf b)).fits 256 := flagOf_bit b
theorem rankOf_pos (cat : Int) (g : Nat) : 0 ≤ rankOf cat g := by
  unfold rankOf
  have := flagOf_bit (decide (1 < cat))
  omega
theorem incAt_pos (i : Nat) : 0 ≤ incAt i := by unfold incAt; omega
theorem placeDeeds_fits (cs : List Int) (last : Int) (m : Nat) : ∀ i, ∀ o ∈ placeDeeds cs last i m, o.fits 256 := by
  induction m with
  | zero => intro i o h; cases h
  | succ m ih =>
    intro i o h
    have hi := incAt_pos i
    unfold placeDeeds at h
    split at h
    · rcases List.mem_append.1 h with h | h
      · exact elemDeeds_fits _ _ _ _ (by omega) (by omega) hi o h
      · exact ih _ o h
    · rcases List.mem_append.1 h with h | h
      · exact elemDeeds_fits _ _ _ _ (by omega) (by omega) hi o h
      · rcases List.mem_append.1 h with h | h
        · exact elemDeeds_fits _ _ _ _ (by omega) (by omega) hi o h
        · split at h
          · cases h
          · exact ih _ o h
theorem placeDeeds_length (cs : List Int) (last : Int) (m : Nat) : ∀ i, (placeDeeds cs last i m).length ≤ 200 * m := by
  induction m with
  | zero => intro i; simp [placeDeeds]
  | succ m ih =>
    intro i
    have h1 := elemDeeds_length 15 (incAt i) 0 1
    have h2 := elemDeeds_length 15 (incAt i) 1 1
    have h3 := elemDeeds_length 16 (incAt i) (flagOf (decide ((i : Int) = last))) 1
    have h4 := ih (i + 1)
    unfold placeDeeds
    split
    · rw [List.length_append]; omega
    · rw [List.length_append, List.length_append]
      split
      · simp; omega
      · omega
theorem coefDeeds_fits (cs : List Int) (cat : Int) (P : List Nat) : ∀ g, ∀ o ∈ coefDeeds cs cat P g, o.fits 256 := by
  induction P with
  | nil => intro g o h; cases h
  | cons p P ih =>
    intro g o h
    unfold coefDeeds at h
    rcases List.mem_append.1 h with h | h
    · exact elemDeeds_fits _ _ _ _ (by omega) (by omega) (rankOf_pos cat g) o h
    · rcases List.mem_cons.1 h with rfl | h
      · exact byp_fits _
      · exact ih _ o h
theorem coefDeeds_length (cs : List Int) (cat : Int) (P : List Nat) : ∀ g, (coefDeeds cs cat P g).length ≤ 101 * P.length := by
  induction P with
  | nil => intro g; simp [coefDeeds]
  | cons p P ih =>
    intro g
    have h1 := elemDeeds_length 17 (rankOf cat g) ((cs.getD p 0).natAbs - 1 : Int) 1
    have h2 := ih (if 1 < (cs.getD p 0).natAbs then g + 1 else g)
    unfold coefDeeds
    rw [List.length_append, List.length_cons, List.length_cons]
    omega
/-- May a block be: its size, its category, its increment? -/
def sizeB (n : Int) : Bool := decide (n = 4 ∨ n = 15 ∨ n = 16)
def mayB (n cat inc : Int) : Bool := sizeB n && decide (0 ≤ cat ∧ cat ≤ 3 ∧ 0 ≤ inc ∧ inc ≤ 1)
def mayCode (ok : Bool) : Int := if ok then 0 else 800
/-- Are the numbers within their limits? -/
def rangeB (cs : List Int) : Bool := cs.all fun x => decide (-32767 ≤ x ∧ x ≤ 32767)
def blkFine (cs : List Int) (cat inc : Int) : Bool := mayB cs.length cat inc && rangeB cs
def blkCode (cs : List Int) (cat inc : Int) : Int := if mayB cs.length cat inc then (if rangeB cs then 0 else 802) else 800
theorem mayB_spec {n cat inc : Int} (h : mayB n cat inc = true) : (n = 4 ∨ n = 15 ∨ n = 16) ∧ 0 ≤ cat ∧ cat ≤ 3 ∧ 0 ≤ inc ∧ inc ≤ 1 := by
  unfold mayB sizeB at h
  rw [Bool.and_eq_true, decide_eq_true_eq, decide_eq_true_eq] at h
  exact h
theorem rangeB_at {cs : List Int} (h : rangeB cs = true) (i : Nat) : -32767 ≤ cs.getD i 0 ∧ cs.getD i 0 ≤ 32767 := by
  unfold rangeB at h
  rw [List.all_eq_true] at h
  by_cases hi : i < cs.length
  · have h1 := h cs[i] (List.getElem_mem hi)
    rw [decide_eq_true_eq] at h1
    simpa [List.getD, List.getElem?_eq_getElem hi] using h1
  · simp [List.getD, List.getElem?_eq_none (Nat.le_of_not_lt hi)]
theorem rangeB_of {cs : List Int} (h : ∀ i, i < cs.length → -32767 ≤ cs.getD i 0 ∧ cs.getD i 0 ≤ 32767) : rangeB cs = true := by
  unfold rangeB
  rw [List.all_eq_true]
  intro x hx
  obtain ⟨i, hi, rfl⟩ := List.getElem_of_mem hx
  have := h i hi
  rw [decide_eq_true_eq]
  simpa [List.getD, List.getElem?_eq_getElem hi] using this
theorem rangeB_not {cs : List Int} {i : Nat} (h : cs.getD i 0 < -32767 ∨ 32767 < cs.getD i 0) : rangeB cs = false := by
  cases hr : rangeB cs with
  | false => rfl
  | true => have := rangeB_at hr i; omega
theorem blkFine_spec {cs : List Int} {cat inc : Int} (h : blkFine cs cat inc = true) : mayB cs.length cat inc = true ∧ rangeB cs = true := by
  unfold blkFine at h
  rwa [Bool.and_eq_true] at h
theorem sigDeeds_fits (cs : List Int) (cat inc : Int) (h0 : 0 ≤ cat) (h1 : 0 ≤ inc) : ∀ o ∈ sigDeeds cs cat inc, o.fits 256 := by
  intro o h
  unfold sigDeeds at h
  split at h
  · rcases List.mem_append.1 h with h | h
    · exact elemDeeds_fits _ _ _ _ (by omega) (by omega) (by omega) o h
    · rcases List.mem_append.1 h with h | h
      · exact placeDeeds_fits _ _ _ _ o h
      · exact coefDeeds_fits _ _ _ _ o h
  · exact elemDeeds_fits _ _ _ _ (by omega) (by omega) (by omega) o h
theorem sigDeeds_length (cs : List Int) (cat inc : Int) (h : cs.length ≤ 16) : (sigDeeds cs cat inc).length ≤ 5000 := by
  have h1 := elemDeeds_length 14 (2 * cat + inc) 1 1
  have h2 := elemDeeds_length 14 (2 * cat + inc) 0 1
  have h3 := placeDeeds_length cs (lastOf cs) (cs.length - 1) 0
  have h4 := coefDeeds_length cs cat (placeOut cs (lastOf cs) 0 (cs.length - 1)).reverse 0
  have h5 := placeOut_length cs (lastOf cs) (cs.length - 1) 0
  rw [List.length_reverse] at h4
  unfold sigDeeds
  split
  · rw [List.length_append, List.length_append]
    omega
  · omega
end Go.Proofs.YtgmnkihldlajcaaGreatDoor
