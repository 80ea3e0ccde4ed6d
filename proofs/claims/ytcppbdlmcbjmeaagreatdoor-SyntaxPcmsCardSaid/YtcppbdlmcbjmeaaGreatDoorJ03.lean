/-
  Plain Lean: what an element's bins are (as numbers of letters), the kinds of elements, the states that contexts begin with. No program is named.
-/
import Derived.Laws.BytesArg
import Derived.Lib.Fields
namespace Go.Proofs.YtcppbdlmcbjmeaaGreatDoor

/-- Kinds: 0 none, 1 flag, 2 short, 3 signed, 4 great. -/
def kindTab : List Int := [1, 2, 1, 2, 2, 2, 2, 2, 2, 3, 3, 2, 2, 3, 1, 1, 1, 4, 1, 1]
def kindOf (el : Int) : Int := if el < 0 then 0 else kindTab.getD el.toNat 0

/-- May an element of a kind have a value? -/
def mayOf (k v most : Int) : Bool :=
  if k = 1 then decide (v = 0 ∨ v = 1)
  else if k = 2 then decide (1 ≤ most ∧ most ≤ 63 ∧ 0 ≤ v ∧ v ≤ most)
  else if k = 3 then decide (-32767 ≤ v ∧ v ≤ 32767)
  else if k = 4 then decide (0 ≤ v ∧ v ≤ 65535)
  else false

/-- So many ones, and a nought below the limit. -/
def onesL (n limit : Nat) : List Int := List.replicate n 49 ++ (if n < limit then [48] else [])
/-- The last i bits of x, as letters. -/
def lowL (x : Nat) : Nat → List Int
  | 0 => []
  | i + 1 => (97 + (x / 2 ^ i % 2 : Nat)) :: lowL x i
/-- The tail of a number; f: fuel. -/
def tailL : Nat → Nat → Nat → List Int
  | 0, _, _ => []
  | f + 1, x, k => if 2 ^ k ≤ x then 98 :: tailL f (x - 2 ^ k) (k + 1) else 97 :: lowL x k
def greatL (v own k : Nat) : List Int := onesL (min v own) own ++ (if own ≤ v then tailL 18 (v - own) k else [])
def signL (v : Int) : List Int := if 0 < v then [97] else if v < 0 then [98] else []
/-- The bins of an element, that may be. -/
def rawL (k v most : Int) : List Int :=
  if k = 1 then [48 + v]
  else if k = 2 then onesL v.toNat most.toNat
  else if k = 3 then greatL v.natAbs 9 3 ++ signL v
  else greatL v.natAbs 14 0
def bitsL (el v most : Int) : List Int := if mayOf (kindOf el) v most then rawL (kindOf el) v most else []
def bitsE (el v most : Int) : Int := if mayOf (kindOf el) v most then 0 else 600

theorem kindOf_range (el : Int) : 0 ≤ kindOf el ∧ kindOf el ≤ 4 := by
  unfold kindOf
  split
  · omega
  · rename_i h
    rcases Nat.lt_or_ge el.toNat 20 with g | g
    · have : ∀ n, n < 20 → 0 ≤ kindTab.getD n 0 ∧ kindTab.getD n 0 ≤ 4 := by decide
      exact this _ g
    · have : kindTab[el.toNat]? = none := List.getElem?_eq_none (by simpa [kindTab] using g)
      simp [List.getD, this]
theorem lowL_length (x i : Nat) : (lowL x i).length = i := by
  induction i with
  | zero => rfl
  | succ i ih => simp [lowL, ih]
theorem onesL_length (n l : Nat) (h : n ≤ l) : (onesL n l).length = min (n + 1) l := by
  unfold onesL
  split <;> simp <;> omega
theorem tailL_length (f x k : Nat) : (tailL f x k).length ≤ f + f + k := by
  induction f generalizing x k with
  | zero => simp [tailL]
  | succ f ih =>
    unfold tailL
    split
    · have := ih (x - 2 ^ k) (k + 1); simp; omega
    · simp [lowL_length]; omega
theorem greatL_length (v own k : Nat) : (greatL v own k).length ≤ own + 40 + k := by
  have h1 := tailL_length 18 (v - own) k
  have h2 := onesL_length (min v own) own (by omega)
  unfold greatL
  split
  · rw [List.length_append]; omega
  · rw [List.append_nil]; omega

/-- The states that contexts begin with. -/
def clampQp (qp : Int) : Int := if qp < 0 then 0 else if 51 < qp then 51 else qp
def initX (q : Int) (c : Nat) : Int := 40 + 13 * (c : Int) % 48 + ((7 * (c : Int) + 5) % 41 - 20) * q / 16
def initY (x : Int) : Int := if x < 1 then 1 else if 126 < x then 126 else x
def initAt (q : Int) (c : Nat) : Int := if initY (initX q c) < 64 then 2 * (63 - initY (initX q c)) else 2 * (initY (initX q c) - 64) + 1
def initL (qp : Int) : List Int := (List.range 256).map (initAt (clampQp qp))
theorem clampQp_range (qp : Int) : 0 ≤ clampQp qp ∧ clampQp qp ≤ 51 := by unfold clampQp; split; omega; split <;> omega
end Go.Proofs.YtcppbdlmcbjmeaaGreatDoor

/-
  Plain Lean: the arithmetic engine of package engine: its tables, its encoder and its decoder as functions. No program is named.
-/
namespace Go.Proofs.YtcppbdlmcbjmeaaGreatDoor

/-- The number that a word of digits tells; whether a text's words are such and tell these numbers. -/
def numOf (l : List UInt8) : Int := l.foldl (fun x b => 10 * x + ((b.toNat : Int) - 48)) 0
def okWord (l : List UInt8) : Bool := decide (l.length ≤ 9) && l.all (fun b => decide (48 ≤ b.toNat) && decide (b.toNat ≤ 57))
def numsOk (s : List UInt8) (xs : List Int) : Bool :=
  (Lib.fields s).all okWord && decide ((Lib.fields s).map numOf = xs) && s.all (fun b => decide (b.toNat < 128)) && decide (s.length < 100000) && decide (xs.length < 10000)

def widthL : List Int := [128, 176, 208, 240, 128, 167, 197, 227, 128, 158, 187, 216, 123, 150, 178, 205, 116, 142, 169, 195, 111, 135, 160, 185, 105, 128, 152, 175, 100, 122, 144, 166, 95, 116, 137, 158, 90, 110, 130, 150, 85, 104, 123, 142, 81, 99, 117, 135, 77, 94, 111, 128, 73, 89, 105, 122, 69, 85, 100, 116, 66, 80, 95, 110, 62, 76, 90, 104, 59, 72, 86, 99, 56, 69, 81, 94, 53, 65, 77, 89, 51, 62, 73, 85, 48, 59, 69, 80, 46, 56, 66, 76, 43, 53, 63, 72, 41, 50, 59, 69, 39, 48, 56, 65, 37, 45, 54, 62, 35, 43, 51, 59, 33, 41, 48, 56, 32, 39, 46, 53, 30, 37, 43, 50, 29, 35, 41, 48, 27, 33, 39, 45, 26, 31, 37, 43, 24, 30, 35, 41, 23, 28, 33, 39, 22, 27, 32, 37, 21, 26, 30, 35, 20, 24, 29, 33, 19, 23, 27, 31, 18, 22, 26, 30, 17, 21, 25, 28, 16, 20, 23, 27, 15, 19, 22, 25, 14, 18, 21, 24, 14, 17, 20, 23, 13, 16, 19, 22, 12, 15, 18, 21, 12, 14, 17, 20, 11, 14, 16, 19, 11, 13, 15, 18, 10, 12, 15, 17, 10, 12, 14, 16, 9, 11, 13, 15, 9, 11, 12, 14, 8, 10, 12, 14, 8, 9, 11, 13, 7, 9, 11, 12, 7, 9, 10, 12, 7, 8, 10, 11, 6, 8, 9, 11, 6, 7, 9, 10, 6, 7, 8, 9, 2, 2, 2, 2]
def downL : List Int := [0, 0, 1, 2, 2, 4, 4, 5, 6, 7, 8, 9, 9, 11, 11, 12, 13, 13, 15, 15, 16, 16, 18, 18, 19, 19, 21, 21, 22, 22, 23, 24, 24, 25, 26, 26, 27, 27, 28, 29, 29, 30, 30, 30, 31, 32, 32, 33, 33, 33, 34, 34, 35, 35, 35, 36, 36, 36, 37, 37, 37, 38, 38, 63]

def widthOf (state q : Int) : Int := widthL.getD (4 * (state / 2) + q).toNat 0
def nextOf (state : Int) (mps : Bool) : Int :=
  if mps then (if state / 2 < 62 then 2 * (state / 2 + 1) + state % 2 else state)
  else if state / 2 = 0 then 2 * downL.getD 0 0 + (1 - state % 2) else 2 * downL.getD (state / 2).toNat 0 + state % 2
def rangeOf (state q : Int) : Int := if 0 ≤ state ∧ state < 128 ∧ 0 ≤ q ∧ q ≤ 3 then widthOf state q else 0
def stepOf (state : Int) (mps : Bool) : Int := if 0 ≤ state ∧ state < 128 then nextOf state mps else 0
def beginOf (xs : List Int) : List Int := xs.map fun s => if 0 ≤ s ∧ s < 128 then s else 0

end Go.Proofs.YtcppbdlmcbjmeaaGreatDoor
