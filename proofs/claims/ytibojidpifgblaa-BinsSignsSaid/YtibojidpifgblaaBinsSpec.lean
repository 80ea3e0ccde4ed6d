/-
  Plain Lean: what an element's bins are (as numbers of letters), the kinds of elements, the states that contexts begin with. No program is named.
-/
import Derived.Laws.BytesArg
namespace Go.Proofs.Ytibojidpifgblaa

/-- Kinds: 0 none, 1 flag, 2 short, 3 signed, 4 great. -/
def kindTab : List Int := [1, 2, 1, 2, 2, 2, 2, 2, 2, 3, 3, 2, 2, 3, 1, 1, 1, 4, 1, 1]
def kindOf (el : Int) : Int := if el < 0 then 0 else kindTab.getD el.toNat 0

/-- May an element of a kind have a value? -/
def mayOf (k v most : Int) : Bool :=
  if k = 1 then decide (v = 0 ∨ v = 1)
  else if k = 2 then decide (1 ≤ most ∧ most ≤ 63 ∧ 0 ≤ v ∧ v ≤ most)
  else if k = 3 then decide (-32767 ≤ v ∧ v ≤ 32767)
  else if k = 4 then decide (0 ≤ v ∧ v ≤ 65535)
  else false

/-- So many ones, and a nought below the limit. -/
def onesL (n limit : Nat) : List Int := List.replicate n 49 ++ (if n < limit then [48] else [])
/-- The last i bits of x, as letters. -/
def lowL (x : Nat) : Nat → List Int
  | 0 => []
  | i + 1 => (97 + (x / 2 ^ i % 2 : Nat)) :: lowL x i
/-- The tail of a number; f: fuel. -/
def tailL : Nat → Nat → Nat → List Int
  | 0, _, _ => []
  | f + 1, x, k => if 2 ^ k ≤ x then 98 :: tailL f (x - 2 ^ k) (k + 1) else 97 :: lowL x k
def greatL (v own k : Nat) : List Int := onesL (min v own) own ++ (if own ≤ v then tailL 18 (v - own) k else [])
def signL (v : Int) : List Int := if 0 < v then [97] else if v < 0 then [98] else []
/-- The bins of an element, that may be. -/
def rawL (k v most : Int) : List Int :=
  if k = 1 then [48 + v]
  else if k = 2 then onesL v.toNat most.toNat
  else if k = 3 then greatL v.natAbs 9 3 ++ signL v
  else greatL v.natAbs 14 0
def bitsL (el v most : Int) : List Int := if mayOf (kindOf el) v most then rawL (kindOf el) v most else []
def bitsE (el v most : Int) : Int := if mayOf (kindOf el) v most then 0 else 600

theorem kindOf_range (el : Int) : 0 ≤ kindOf el ∧ kindOf el ≤ 4 := by
  unfold kindOf
  split
  · omega
  · rename_i h
    rcases Nat.lt_or_ge el.toNat 20 with g | g
    · have : ∀ n, n < 20 → 0 ≤ kindTab.getD n 0 ∧ kindTab.getD n 0 ≤ 4 := by decide
      exact this _ g
    · have : kindTab[el.toNat]? = none := List.getElem?_eq_none (by simpa [kindTab] using g)
      simp [List.getD, this]
theorem lowL_length (x i : Nat) : (lowL x i).length = i := by
  induction i with
  | zero => rfl
  | succ i ih => simp [lowL, ih]
theorem onesL_length (n l : Nat) (h : n ≤ l) : (onesL n l).length = min (n + 1) l := by
  unfold onesL
  split <;> simp <;> omega
theorem tailL_length (f x k : Nat) : (tailL f x k).length ≤ f + f + k := by
  induction f generalizing x k with
  | zero => simp [tailL]
  | succ f ih =>
    unfold tailL
    split
    · have := ih (x - 2 ^ k) (k + 1); simp; omega
    · simp [lowL_length]; omega
theorem greatL_length (v own k : Nat) : (greatL v own k).length ≤ own + 40 + k := by
  have h1 := tailL_length 18 (v - own) k
  have h2 := onesL_length (min v own) own (by omega)
  unfold greatL
  split
  · rw [List.length_append]; omega
  · rw [List.append_nil]; omega

/-- The states that contexts begin with. -/
def clampQp (qp : Int) : Int := if qp < 0 then 0 else if 51 < qp then 51 else qp
def initX (q : Int) (c : Nat) : Int := 40 + 13 * (c : Int) % 48 + ((7 * (c : Int) + 5) % 41 - 20) * q / 16
def initY (x : Int) : Int := if x < 1 then 1 else if 126 < x then 126 else x
def initAt (q : Int) (c : Nat) : Int := if initY (initX q c) < 64 then 2 * (63 - initY (initX q c)) else 2 * (initY (initX q c) - 64) + 1
def initL (qp : Int) : List Int := (List.range 256).map (initAt (clampQp qp))
theorem clampQp_range (qp : Int) : 0 ≤ clampQp qp ∧ clampQp qp ≤ 51 := by unfold clampQp; split; omega; split <;> omega
end Go.Proofs.Ytibojidpifgblaa
