/-
  Plain Lean: a block of coefficients as a list of acts. No program is named.
-/
import Derived.Test.YtgmnkihldlajcaaGreatDoorPuts
namespace Go.Proofs.YtgmnkihldlajcaaGreatDoor

def flagOf (b : Bool) : Int := if b then 1 else 0
theorem flagOf_bit (b : Bool) : flagOf b = 0 ∨ flagOf b = 1 := by cases b <;> simp [flagOf]
/-- The last place that is not 0, among the first k; -1: none. -/
def lastTo (cs : List Int) : Nat → Int
  | 0 => -1
  | k + 1 => if cs.getD k 0 ≠ 0 then (k : Int) else lastTo cs k
def lastOf (cs : List Int) : Int := lastTo cs cs.length
theorem lastTo_range (cs : List Int) (k : Nat) : -1 ≤ lastTo cs k ∧ lastTo cs k < k := by
  induction k with
  | zero => simp [lastTo]
  | succ k ih => unfold lastTo; split <;> omega
theorem lastTo_ge (cs : List Int) (k p : Nat) (hp : p < k) (h : cs.getD p 0 ≠ 0) : (p : Int) ≤ lastTo cs k := by
  induction k with
  | zero => omega
  | succ k ih =>
    unfold lastTo
    split
    · omega
    · rename_i hk
      rcases Nat.lt_or_ge p k with hlt | hge
      · exact ih hlt
      · obtain rfl : p = k := by omega
        exact absurd h hk
theorem lastTo_at (cs : List Int) (k : Nat) (h : 0 ≤ lastTo cs k) : cs.getD (lastTo cs k).toNat 0 ≠ 0 := by
  induction k with
  | zero => simp [lastTo] at h
  | succ k ih =>
    unfold lastTo at h ⊢
    split
    · rename_i hk; simpa using hk
    · rename_i hk; rw [if_neg hk] at h; exact ih h
/-- Is one of the first k not 0? -/
def someTo (cs : List Int) : Nat → Bool
  | 0 => false
  | k + 1 => someTo cs k || decide (cs.getD k 0 ≠ 0)
theorem someTo_last (cs : List Int) (k : Nat) : someTo cs k = decide (0 ≤ lastTo cs k) := by
  induction k with
  | zero => simp [someTo, lastTo]
  | succ k ih =>
    unfold someTo lastTo
    rw [ih]
    by_cases h : cs.getD k 0 ≠ 0
    · rw [if_pos h, decide_eq_true h, Bool.or_true]; exact (decide_eq_true (by omega)).symm
    · rw [if_neg h, decide_eq_false h, Bool.or_false]

def incAt (i : Nat) : Int := min ((i : Int) / 2) 7
/-- Where the coefficients are that are not 0: from place i on, m places before the last one. -/
def placeDeeds (cs : List Int) (last : Int) : Nat → Nat → List Deed
  | _, 0 => []
  | i, m + 1 => if cs.getD i 0 = 0 then elemDeeds 15 (incAt i) 0 1 ++ placeDeeds cs last (i + 1) m
    else elemDeeds 15 (incAt i) 1 1 ++ (elemDeeds 16 (incAt i) (flagOf (decide ((i : Int) = last))) 1 ++ (if (i : Int) = last then [] else placeDeeds cs last (i + 1) m))
def placeOut (cs : List Int) (last : Int) : Nat → Nat → List Nat
  | i, 0 => [i]
  | i, m + 1 => if cs.getD i 0 = 0 then placeOut cs last (i + 1) m else i :: (if (i : Int) = last then [] else placeOut cs last (i + 1) m)
theorem placeOut_mem (cs : List Int) (last : Int) (m : Nat) : ∀ i, i + m + 1 = cs.length → last = lastOf cs → (i : Int) ≤ last →
    (∀ p ∈ placeOut cs last i m, i ≤ p ∧ p < cs.length ∧ cs.getD p 0 ≠ 0) ∧ (∀ p, i ≤ p → p < cs.length → cs.getD p 0 ≠ 0 → p ∈ placeOut cs last i m) := by
  induction m with
  | zero =>
    intro i hi hl hle
    have hr := lastTo_range cs cs.length
    have h1 : last = (i : Int) := by unfold lastOf at hl; omega
    have h2 := lastTo_at cs cs.length (by unfold lastOf at hl; omega)
    have h3 : (lastTo cs cs.length).toNat = i := by unfold lastOf at hl; omega
    rw [h3] at h2
    unfold placeOut
    constructor
    · intro p hp
      simp at hp; subst hp
      exact ⟨Nat.le_refl _, by omega, h2⟩
    · intro p h4 h5 _
      simp; omega
  | succ m ih =>
    intro i hi hl hle
    have hlt := lastTo_at cs cs.length (by unfold lastOf at hl; omega)
    unfold placeOut
    split
    · rename_i h0
      have hne : (i : Int) ≠ last := by
        intro he
        apply hlt
        have : (lastTo cs cs.length).toNat = i := by unfold lastOf at hl; omega
        rw [this]; exact h0
      obtain ⟨a, b⟩ := ih (i + 1) (by omega) hl (by omega)
      constructor
      · intro p hp
        obtain ⟨q1, q2, q3⟩ := a p hp
        exact ⟨by omega, q2, q3⟩
      · intro p h4 h5 h6
        rcases Nat.lt_or_ge i p with h | h
        · exact b p (by omega) h5 h6
        · obtain rfl : p = i := by omega
          exact absurd h0 h6
    · rename_i h0
      by_cases he : (i : Int) = last
      · rw [if_pos he]
        constructor
        · intro p hp
          simp at hp; subst hp
          exact ⟨Nat.le_refl _, by omega, h0⟩
        · intro p h4 h5 h6
          have := lastTo_ge cs cs.length p h5 h6
          simp
          unfold lastOf at hl
          omega
      · rw [if_neg he]
        obtain ⟨a, b⟩ := ih (i + 1) (by omega) hl (by omega)
        constructor
        · intro p hp
          rcases List.mem_cons.1 hp with rfl | hp
          · exact ⟨Nat.le_refl _, by omega, h0⟩
          · obtain ⟨q1, q2, q3⟩ := a p hp
            exact ⟨by omega, q2, q3⟩
        · intro p h4 h5 h6
          rcases Nat.lt_or_ge i p with h | h
          · exact List.mem_cons_of_mem _ (b p (by omega) h5 h6)
          · obtain rfl : p = i := by omega
            simp
theorem placeOut_length (cs : List Int) (last : Int) (m : Nat) : ∀ i, (placeOut cs last i m).length ≤ m + 1 := by
  induction m with
  | zero => intro i; simp [placeOut]
  | succ m ih =>
    intro i
    unfold placeOut
    have := ih (i + 1)
    split
    · omega
    · rw [List.length_cons]
      split
      · simp
      · omega

theorem placeOut_pos (cs : List Int) (last : Int) (m : Nat) : ∀ i, 0 < (placeOut cs last i m).length := by
  induction m with
  | zero => intro i; simp [placeOut]
  | succ m ih =>
    intro i
    unfold placeOut
    split
    · exact ih (i + 1)
    · simp

/-- The numbers, the last place first; g: how many greater than 1 there were. -/
def rankOf (cat : Int) (g : Nat) : Int := min 5 (g : Int) + flagOf (decide (1 < cat))
def coefDeeds (cs : List Int) (cat : Int) : List Nat → Nat → List Deed
  | [], _ => []
  | p :: ps, g => elemDeeds 17 (rankOf cat g) ((cs.getD p 0).natAbs - 1 : Int) 1 ++ (Deed.byp (flagOf (decide (cs.getD p 0 < 0))) :: coefDeeds cs cat ps (if 1 < (cs.getD p 0).natAbs then g + 1 else g))
/-- A block. -/
def sigDeeds (cs : List Int) (cat inc : Int) : List Deed :=
  if 0 ≤ lastOf cs then elemDeeds 14 (2 * cat + inc) 1 1 ++ (placeDeeds cs (lastOf cs) 0 (cs.length - 1) ++ coefDeeds cs cat (placeOut cs (lastOf cs) 0 (cs.length - 1)).reverse 0)
  else elemDeeds 14 (2 * cat + inc) 0 1
end Go.Proofs.YtgmnkihldlajcaaGreatDoor
