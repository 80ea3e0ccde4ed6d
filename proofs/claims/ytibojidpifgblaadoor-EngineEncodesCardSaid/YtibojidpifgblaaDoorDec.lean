/-
  Plain Lean: the decoder of bins as a function of its state. No program is named.
-/
import Derived.Test.YtibojidpifgblaaDoorEnc
namespace Go.Proofs.YtibojidpifgblaaDoor

/-- The bit number i of a text, the first uppermost. -/
def bitOf (s : ByteArray) (i : Nat) : Int := (((s.data.toList.getD (i / 8) 0).toNat / 2 ^ (7 - i % 8) % 2 : Nat) : Int)
theorem bitOf_bit (s : ByteArray) (i : Nat) : bitOf s i = 0 ∨ bitOf s i = 1 := by unfold bitOf; omega
/-- So many bits from there on as a number. -/
def readTo (s : ByteArray) (p : Nat) : Nat → Int
  | 0 => 0
  | n + 1 => 2 * readTo s p n + bitOf s (p + n)
theorem readTo_range (s : ByteArray) (p n : Nat) : 0 ≤ readTo s p n ∧ readTo s p n < 2 ^ n := by
  induction n with
  | zero => simp [readTo]
  | succ n ih =>
    have := bitOf_bit s (p + n)
    rw [Int.pow_succ]
    unfold readTo
    omega
/-- How often a width is doubled. -/
def need : Nat → Int → Nat
  | 0, _ => 0
  | k + 1, w => if w < 256 then need k (2 * w) + 1 else 0
theorem need_step (k : Nat) (w : Int) (h : w < 256) : need (k + 1) w = need k (2 * w) + 1 := by
  show (if w < 256 then need k (2 * w) + 1 else 0) = _
  rw [if_pos h]
theorem need_done (k : Nat) (w : Int) (h : 256 ≤ w) : need k w = 0 := by
  cases k with
  | zero => rfl
  | succ k => show (if w < 256 then need k (2 * w) + 1 else 0) = 0; rw [if_neg (by omega)]
theorem need_le (k : Nat) : ∀ w : Int, need k w ≤ k := by
  induction k with
  | zero => intro w; simp [need]
  | succ k ih =>
    intro w
    by_cases h : w < 256
    · rw [need_step k w h]
      have := ih (2 * w)
      omega
    · rw [need_done _ w (by omega)]; omega
theorem need_wide (k : Nat) : ∀ w : Int, 256 ≤ w * 2 ^ k → 256 ≤ w * 2 ^ need k w := by
  induction k with
  | zero => intro w h; simpa [need] using h
  | succ k ih =>
    intro w h
    by_cases hw : w < 256
    · rw [need_step k w hw, Int.pow_succ, Int.mul_comm _ 2, ← Int.mul_assoc, Int.mul_comm w 2]
      exact ih (2 * w) (by rw [Int.mul_comm 2, Int.mul_assoc, Int.mul_comm 2, ← Int.pow_succ]; exact h)
    · rw [need_done _ w (by omega)]; simp; omega
theorem need_top (k : Nat) : ∀ w : Int, w ≤ 510 → w * 2 ^ need k w ≤ 510 := by
  induction k with
  | zero => intro w h; simpa [need] using h
  | succ k ih =>
    intro w h
    by_cases hw : w < 256
    · rw [need_step k w hw, Int.pow_succ, Int.mul_comm _ 2, ← Int.mul_assoc, Int.mul_comm w 2]
      exact ih (2 * w) (by omega)
    · rw [need_done _ w (by omega)]; simp; omega

structure Dec where
  st : List Int
  s : ByteArray
  pos : Nat
  wid : Int
  off : Int
  over : Bool
def Dec.has (d : Dec) (n : Nat) : Bool := decide (d.pos + n ≤ 8 * d.s.size)
def Dec.begin (s : ByteArray) (xs : List Int) : Dec := ⟨beginOf xs, s, 9, 510, readTo s 0 9, false⟩
/-- The range and the offset widened; as it was, where the bits end. -/
def Dec.normal (d : Dec) (w o : Int) : Dec := { d with wid := w * 2 ^ need 8 w, off := o * 2 ^ need 8 w + readTo d.s d.pos (need 8 w), pos := d.pos + need 8 w }
def Dec.lessOf (d : Dec) (c : Nat) : Int := widthOf (d.st.getD c 0) (d.wid / 64 % 4)
/-- What a context's bin is, its width and its offset. -/
def Dec.split (d : Dec) (c : Nat) : Int × Int × Int :=
  let s := d.st.getD c 0
  let less := d.lessOf c
  if d.wid - less ≤ d.off then (1 - s % 2, less, d.off - (d.wid - less)) else (s % 2, d.wid - less, d.off)
def Dec.can (d : Dec) (c : Int) : Bool := !d.over && decide (0 ≤ c ∧ c < d.st.length)
/-- Bin: the bin, the code, the decoder behind it. -/
def Dec.bin (d : Dec) (c : Int) : Int × Int × Dec :=
  if d.can c then
    let p := d.split c.toNat
    if d.has (need 8 p.2.1) then (p.1, 0, { d.normal p.2.1 p.2.2 with st := d.st.set c.toNat (nextOf (d.st.getD c.toNat 0) (p.1 == d.st.getD c.toNat 0 % 2)) }) else (0, 500, d)
  else (0, 501, d)
def Dec.bypass (d : Dec) : Int × Int × Dec :=
  if d.over then (0, 501, d) else if d.has 1 then
    (let o := 2 * d.off + bitOf d.s d.pos
     if d.wid ≤ o then (1, 0, { d with off := o - d.wid, pos := d.pos + 1 }) else (0, 0, { d with off := o, pos := d.pos + 1 }))
  else (0, 500, d)
def Dec.term (d : Dec) : Int × Int × Dec :=
  if d.over then (0, 501, d) else if d.wid - 2 ≤ d.off then (1, 0, { d with wid := d.wid - 2, over := true })
  else if d.has (need 8 (d.wid - 2)) then (0, 0, d.normal (d.wid - 2) d.off) else (0, 500, d)

/-- What is true of each decoder between calls. -/
structure Dec.Ok (d : Dec) : Prop where
  st : ∀ i, 0 ≤ d.st.getD i 0 ∧ d.st.getD i 0 < 128
  off0 : 0 ≤ d.off
  off1 : d.over = false → d.off < d.wid
  wid0 : 254 ≤ d.wid
  wid2 : d.over = false → 256 ≤ d.wid
  wid1 : d.wid ≤ 510
  top : d.off < 510
  pos : d.pos ≤ 8 * d.s.size
theorem Dec.ok_normal (d : Dec) (w o : Int) (h : d.Ok) (w0 : 2 ≤ w) (w1 : w ≤ 510) (o0 : 0 ≤ o) (o1 : o < w) (hh : d.has (need 8 w) = true) : (d.normal w o).Ok := by
  have h1 := need_wide 8 w (by omega)
  have h2 := need_top 8 w w1
  have h3 := readTo_range d.s d.pos (need 8 w)
  unfold Dec.has at hh
  rw [decide_eq_true_eq] at hh
  unfold Dec.normal
  generalize need 8 w = n at *
  generalize readTo d.s d.pos n = r at *
  have hp : (0 : Int) < 2 ^ n := Int.pow_pos (by decide)
  have h4 : o * 2 ^ n + 2 ^ n ≤ w * 2 ^ n := by
    have : (o + 1) * 2 ^ n ≤ w * 2 ^ n := Int.mul_le_mul_of_nonneg_right (by omega) (Int.le_of_lt hp)
    rwa [Int.add_mul, Int.one_mul] at this
  have h5 : 0 ≤ o * 2 ^ n := Int.mul_nonneg o0 (Int.le_of_lt hp)
  generalize o * 2 ^ n = oo at *
  generalize w * 2 ^ n = ww at *
  generalize (2 : Int) ^ n = pp at *
  exact ⟨h.st, by dsimp only; omega, fun _ => by dsimp only; omega, by dsimp only; omega, fun _ => by dsimp only; omega, h2, by dsimp only; omega, hh⟩
theorem Dec.ok_set (d : Dec) (c : Nat) (v : Int) (h : d.Ok) (h0 : 0 ≤ v) (h1 : v < 128) : Dec.Ok { d with st := d.st.set c v } := by
  refine ⟨fun i => ?_, h.off0, h.off1, h.wid0, h.wid2, h.wid1, h.top, h.pos⟩
  have := h.st i
  show 0 ≤ (d.st.set c v).getD i 0 ∧ (d.st.set c v).getD i 0 < 128
  rw [getD_set]
  split <;> omega
theorem Dec.split_range (d : Dec) (c : Nat) (h : d.Ok) (hov : d.over = false) : 2 ≤ (d.split c).2.1 ∧ (d.split c).2.1 ≤ 510 ∧ 0 ≤ (d.split c).2.2 ∧ (d.split c).2.2 < (d.split c).2.1 ∧ ((d.split c).1 = 0 ∨ (d.split c).1 = 1) := by
  have hs := h.st c
  have hl := widthOf_range (d.st.getD c 0) (d.wid / 64 % 4) hs.1 hs.2 (by omega) (by omega)
  have h1 := h.wid1
  have h2 := h.wid2 hov
  have h3 := h.off1 hov
  have h4 := h.off0
  unfold Dec.split Dec.lessOf
  dsimp only
  split <;> dsimp only <;> omega
theorem Dec.ok_bin (d : Dec) (c : Int) (h : d.Ok) : (d.bin c).2.2.Ok := by
  unfold Dec.bin
  by_cases hc : d.can c = true
  · rw [if_pos hc]
    dsimp only
    unfold Dec.can at hc
    rw [Bool.and_eq_true] at hc
    have hov : d.over = false := by simpa using hc.1
    have hs := d.split_range c.toNat h hov
    by_cases hh : d.has (need 8 (d.split c.toNat).2.1) = true
    · rw [if_pos hh]
      have h1 := d.ok_normal _ _ h hs.1 hs.2.1 hs.2.2.1 hs.2.2.2.1 hh
      have h2 := h.st c.toNat
      have h3 := nextOf_range (d.st.getD c.toNat 0) ((d.split c.toNat).1 == d.st.getD c.toNat 0 % 2) h2.1 h2.2
      exact (d.normal _ _).ok_set c.toNat _ h1 h3.1 h3.2
    · rw [if_neg hh]; exact h
  · rw [if_neg hc]; exact h
theorem Dec.ok_bypass (d : Dec) (h : d.Ok) : d.bypass.2.2.Ok := by
  have hb := bitOf_bit d.s d.pos
  have h1 := h.wid1
  have h4 := h.off0
  unfold Dec.bypass
  cases hov : d.over
  · have h2 := h.wid2 hov
    have h3 := h.off1 hov
    simp only [Bool.false_eq_true, if_false]
    by_cases hh : d.has 1 = true
    · rw [if_pos hh]
      unfold Dec.has at hh
      rw [decide_eq_true_eq] at hh
      split
      · exact ⟨h.st, by dsimp only; omega, fun _ => by dsimp only; omega, h.wid0, fun _ => h2, h.wid1, by dsimp only; omega, hh⟩
      · exact ⟨h.st, by dsimp only; omega, fun _ => by dsimp only; omega, h.wid0, fun _ => h2, h.wid1, by dsimp only; omega, hh⟩
    · rw [if_neg hh]; exact h
  · simp only [if_true]; exact h
theorem Dec.ok_term (d : Dec) (h : d.Ok) : d.term.2.2.Ok := by
  have h1 := h.wid1
  have h4 := h.off0
  unfold Dec.term
  cases hov : d.over
  · have h2 := h.wid2 hov
    have h3 := h.off1 hov
    simp only [Bool.false_eq_true, if_false]
    by_cases hw : d.wid - 2 ≤ d.off
    · rw [if_pos hw]
      exact ⟨h.st, h.off0, fun e => (nomatch e), by dsimp only; omega, fun e => (nomatch e), by dsimp only; omega, h.top, h.pos⟩
    · rw [if_neg hw]
      by_cases hh : d.has (need 8 (d.wid - 2)) = true
      · rw [if_pos hh]
        exact d.ok_normal _ _ h (by omega) (by omega) h4 (by omega) hh
      · rw [if_neg hh]; exact h
  · simp only [if_true]; exact h
end Go.Proofs.YtibojidpifgblaaDoor
