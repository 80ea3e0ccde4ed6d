/-
  What is asked of a coder, as bits and as deeds of an engine.
-/
import Derived.Test.YtcppbdlmcbjmeaaGreatDoorJ14
import Derived.Test.YtcppbdlmcbjmeaaGreatDoorJ26
import Derived.Test.YtcppbdlmcbjmeaaGreatDoorJ33
namespace Go.Proofs.YtcppbdlmcbjmeaaGreatDoor
open Go.RowKit

/-- Is an element one of a few numbers? -/
def shortB (el : Int) : Bool := decide (el = 1 ∨ el = 3 ∨ el = 4 ∨ el = 5 ∨ el = 6 ∨ el = 7 ∨ el = 8 ∨ el = 11 ∨ el = 12)
def signedB (el : Int) : Bool := decide (el = 9 ∨ el = 10 ∨ el = 13)
/-- An element's bits without an engine. -/
def elemBits (el v most : Int) : List Int := if shortB el then teN v.toNat most.toNat else if signedB el then seN v else bitsN v.toNat 1
def Ask.bits : Ask → List Int
  | .elem el _ v most => elemBits el v most
  | .coefs cs _ _ => levN cs
  | .raw v => bitsN v.toNat 8
def asksBits : List Ask → List Int
  | [] => []
  | a :: r => a.bits ++ asksBits r
def rawDeeds (v : Int) : Nat → List Deed
  | 0 => []
  | j + 1 => .byp (v / 2 ^ j % 2) :: rawDeeds v j
def Ask.deeds : Ask → List Deed
  | .elem el inc v most => elemDeeds el inc v most
  | .coefs cs cat inc => sigDeeds cs cat inc
  | .raw v => rawDeeds v 8
def asksDeeds : List Ask → List Deed
  | [] => []
  | a :: r => a.deeds ++ asksDeeds r
/-- May it be asked? -/
def Ask.fine : Ask → Prop
  | .elem el inc v most => (el = 0 ∨ el = 2 ∨ shortB el = true ∨ signedB el = true) ∧ bitsE el v most = 0 ∧ 0 ≤ inc ∧ inc ≤ 7
  | .coefs cs cat inc => blkFine cs cat inc = true
  | .raw v => 0 ≤ v ∧ v ≤ 255
theorem asksBits_append (a b : List Ask) : asksBits (a ++ b) = asksBits a ++ asksBits b := by
  induction a with
  | nil => rfl
  | cons x a ih => simp [asksBits, ih]
theorem asksDeeds_append (a b : List Ask) : asksDeeds (a ++ b) = asksDeeds a ++ asksDeeds b := by
  induction a with
  | nil => rfl
  | cons x a ih => simp [asksDeeds, ih]
theorem rawDeeds_fits (v : Int) : ∀ j, ∀ o ∈ rawDeeds v j, o.fits 256
  | 0, o, h => by simp [rawDeeds] at h
  | j + 1, o, h => by
    rcases List.mem_cons.1 h with rfl | h
    · show _ = _ ∨ _ = _
      generalize v / 2 ^ j = z
      omega
    · exact rawDeeds_fits v j o h
theorem rawDeeds_length (v : Int) : ∀ j, (rawDeeds v j).length = j
  | 0 => rfl
  | j + 1 => by simp [rawDeeds, rawDeeds_length v j]
theorem Ask.deeds_fits (a : Ask) (h : a.fine) : ∀ o ∈ a.deeds, o.fits 256 := by
  cases a with
  | elem el inc v most =>
    have := bitsE_el el v most h.2.1
    exact elemDeeds_fits el inc v most this.1 this.2.1 h.2.2.1
  | coefs cs cat inc =>
    have := mayB_spec (blkFine_spec h).1
    exact sigDeeds_fits cs cat inc this.2.1 this.2.2.2.1
  | raw v => exact rawDeeds_fits v 8
theorem Ask.deeds_length (a : Ask) (h : a.fine) : a.deeds.length ≤ 5000 := by
  cases a with
  | elem el inc v most => have := elemDeeds_length el inc v most; show (elemDeeds el inc v most).length ≤ 5000; omega
  | coefs cs cat inc =>
    have := mayB_spec (blkFine_spec h).1
    exact sigDeeds_length cs cat inc (by omega)
  | raw v => show (rawDeeds v 8).length ≤ 5000; rw [rawDeeds_length]; omega
theorem asksDeeds_fits : ∀ r : List Ask, (∀ a ∈ r, a.fine) → ∀ o ∈ asksDeeds r, o.fits 256
  | [], _, o, h => by simp [asksDeeds] at h
  | a :: r, hf, o, h => by
    rcases List.mem_append.1 h with h | h
    · exact a.deeds_fits (hf a (by simp)) o h
    · exact asksDeeds_fits r (fun b hb => hf b (by simp [hb])) o h
theorem asksDeeds_length : ∀ r : List Ask, (∀ a ∈ r, a.fine) → (asksDeeds r).length ≤ 5000 * r.length
  | [], _ => by simp [asksDeeds]
  | a :: r, hf => by
    have h1 := a.deeds_length (hf a (by simp))
    have h2 := asksDeeds_length r (fun b hb => hf b (by simp [hb]))
    show (a.deeds ++ asksDeeds r).length ≤ _
    rw [List.length_append, List.length_cons]
    omega
/-- What a fine element's value and greatest value are. -/
theorem fine_short {el inc v most : Int} (h : (Ask.elem el inc v most).fine) (hs : shortB el = true) : 1 ≤ most ∧ most ≤ 63 ∧ 0 ≤ v ∧ v ≤ most := by
  have h1 := (bitsE_el el v most h.2.1).2.2
  have h2 : kindOf el = 2 := by
    simp only [shortB, decide_eq_true_eq] at hs
    rcases hs with rfl | rfl | rfl | rfl | rfl | rfl | rfl | rfl | rfl <;> rfl
  rw [h2] at h1
  simp [mayOf] at h1
  omega
theorem fine_signed {el inc v most : Int} (h : (Ask.elem el inc v most).fine) (hs : signedB el = true) : -32767 ≤ v ∧ v ≤ 32767 := by
  have h1 := (bitsE_el el v most h.2.1).2.2
  have h2 : kindOf el = 3 := by
    simp only [signedB, decide_eq_true_eq] at hs
    rcases hs with rfl | rfl | rfl <;> rfl
  rw [h2] at h1
  simp [mayOf] at h1
  omega
theorem fine_flag {el inc v most : Int} (h : (Ask.elem el inc v most).fine) (hs : shortB el = false) (hg : signedB el = false) : (el = 0 ∨ el = 2) ∧ (v = 0 ∨ v = 1) := by
  have h0 : el = 0 ∨ el = 2 := by
    rcases h.1 with h | h | h | h
    · exact .inl h
    · exact .inr h
    · rw [hs] at h; cases h
    · rw [hg] at h; cases h
  have h1 := (bitsE_el el v most h.2.1).2.2
  have h2 : kindOf el = 1 := by rcases h0 with rfl | rfl <;> rfl
  rw [h2] at h1
  simp [mayOf] at h1
  exact ⟨h0, by omega⟩
end Go.Proofs.YtcppbdlmcbjmeaaGreatDoor
