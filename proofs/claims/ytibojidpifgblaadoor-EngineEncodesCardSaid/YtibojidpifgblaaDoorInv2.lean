/-
  Plain Lean: the bits of an encoder's bytes; the decoder's first and last step. No program is named.
-/
import Derived.Test.YtibojidpifgblaaDoorInv
namespace Go.Proofs.YtibojidpifgblaaDoor

theorem valOf_take (bs : List Int) (n : Nat) (h : n < bs.length) : valOf (bs.take (n + 1)) = 2 * valOf (bs.take n) + bs.getD n 0 := by
  rw [List.take_add_one, List.getElem?_eq_getElem h]
  simp only [Option.toList_some, valOf_snoc, List.getD, List.getElem?_eq_getElem h, Option.getD_some]
theorem packed_byte (bs : List Int) (q : Nat) (hq : q < (bs.length + 7) / 8) : ((strOfNums (packed bs)).data.toList.getD q 0) = UInt8.ofNat (byteAt bs q).toNat := by
  rw [strOfNums_data]
  simp only [List.getD, packed, List.map_map, List.getElem?_map, List.getElem?_range hq, Option.map_some, Option.getD_some, Function.comp]
theorem bit8 (a0 a1 a2 a3 a4 a5 a6 a7 : Int) (h0 : 0 ≤ a0 ∧ a0 ≤ 1) (h1 : 0 ≤ a1 ∧ a1 ≤ 1) (h2 : 0 ≤ a2 ∧ a2 ≤ 1) (h3 : 0 ≤ a3 ∧ a3 ≤ 1) (h4 : 0 ≤ a4 ∧ a4 ≤ 1) (h5 : 0 ≤ a5 ∧ a5 ≤ 1) (h6 : 0 ≤ a6 ∧ a6 ≤ 1) (h7 : 0 ≤ a7 ∧ a7 ≤ 1)
    (x : Nat) (hx : (x : Int) = 128 * a0 + 64 * a1 + 32 * a2 + 16 * a3 + 8 * a4 + 4 * a5 + 2 * a6 + a7) :
    ((x / 128 % 2 : Nat) : Int) = a0 ∧ ((x / 64 % 2 : Nat) : Int) = a1 ∧ ((x / 32 % 2 : Nat) : Int) = a2 ∧ ((x / 16 % 2 : Nat) : Int) = a3 ∧ ((x / 8 % 2 : Nat) : Int) = a4 ∧ ((x / 4 % 2 : Nat) : Int) = a5 ∧ ((x / 2 % 2 : Nat) : Int) = a6 ∧ ((x / 1 % 2 : Nat) : Int) = a7 := by
  refine ⟨?_, ?_, ?_, ?_, ?_, ?_, ?_, ?_⟩ <;> omega
theorem packed_bit (bs : List Int) (hb : ∀ b ∈ bs, b = 0 ∨ b = 1) (i : Nat) (hi : i < bs.length) : bitOf (strOfNums (packed bs)) i = bs.getD i 0 := by
  unfold bitOf
  rw [packed_byte bs (i / 8) (by omega)]
  have hr := byteAt_range bs hb (i / 8)
  have h8 : (UInt8.ofNat (byteAt bs (i / 8)).toNat).toNat = (byteAt bs (i / 8)).toNat := by
    rw [UInt8.toNat_ofNat']; omega
  rw [h8]
  have g : ∀ j, 0 ≤ bs.getD j 0 ∧ bs.getD j 0 ≤ 1 := fun j => by have := bit_getD bs hb j; omega
  obtain ⟨q, r, hqr, hr8, hq, hm⟩ : ∃ q r : Nat, i = 8 * q + r ∧ r < 8 ∧ i / 8 = q ∧ i % 8 = r := ⟨i / 8, i % 8, by omega, by omega, rfl, rfl⟩
  rw [hm, hq]
  rw [hq] at hr
  have hx : (((byteAt bs q).toNat : Nat) : Int) = byteAt bs q := by omega
  obtain ⟨k0, k1, k2, k3, k4, k5, k6, k7⟩ := bit8 _ _ _ _ _ _ _ _ (g (8 * q)) (g (8 * q + 1)) (g (8 * q + 2)) (g (8 * q + 3)) (g (8 * q + 4)) (g (8 * q + 5)) (g (8 * q + 6)) (g (8 * q + 7)) (byteAt bs q).toNat hx
  subst hqr
  rcases r with _ | _ | _ | _ | _ | _ | _ | _ | r
  · exact k0
  · exact k1
  · exact k2
  · exact k3
  · exact k4
  · exact k5
  · exact k6
  · exact k7
  · omega
theorem packed_read (bs : List Int) (hb : ∀ b ∈ bs, b = 0 ∨ b = 1) (n : Nat) : n ≤ bs.length → readTo (strOfNums (packed bs)) 0 n = valOf (bs.take n) := by
  induction n with
  | zero => intro _; rfl
  | succ n ih =>
    intro h
    rw [valOf_take bs n (by omega), ← ih (by omega), ← packed_bit bs hb n (by omega)]
    show 2 * _ + bitOf _ (0 + n) = _
    rw [Nat.zero_add]

/-- The bytes of an encoder that has come to its end. -/
def Enc.text (e : Enc) : ByteArray := strOfNums (packed (e.term 1).bits)
theorem Enc.text_size (e : Enc) (h : e.Live) : e.text.size = (9 + e.steps + 7) / 8 := by
  unfold Enc.text
  rw [strOfNums_size, packed_length, (e.end_bits h).1]
theorem Enc.end_in (e : Enc) (h : e.Live) : e.In e.steps (readTo e.text 0 (9 + e.steps)) := by
  obtain ⟨h1, h2, -, h4⟩ := e.end_bits h
  have hw := h.wide
  unfold Enc.text
  rw [packed_read _ h4 _ (by omega), ← h1, List.take_length]
  refine ⟨0, by omega, ?_, ?_⟩ <;> (rw [Int.pow_zero, Int.mul_one]; omega)
theorem Enc.meets_new (xs : List Int) (s : ByteArray) (K : Nat) (hin : (Enc.new xs).In K (readTo s 0 (9 + K))) (hs : 2 ≤ s.size) :
    (Enc.new xs).Meets (Dec.begin s xs) ∧ ¬ s.size < 2 ∧ ¬ 510 ≤ readTo s 0 9 := by
  have hr := Enc.in_read hin
  have h0 : (Enc.new xs).exact = 0 := by simp [Enc.exact, Enc.new, valOf]
  rw [h0] at hr
  have h1 : readTo s 0 9 < 0 + 510 := hr.2.1
  refine ⟨⟨rfl, rfl, rfl, ?_, rfl⟩, by omega, by omega⟩
  rw [h0]
  show readTo s 0 9 = readTo s 0 9 - 0
  omega
theorem Enc.meets_end (e : Enc) (d : Dec) (h : e.Live) (hm : e.Meets d) (hs : d.s = e.text) :
    d.term = (1, 0, { d with wid := d.wid - 2, over := true }) ∧ d.st = (e.term 1).st ∧ (d.pos + 7) / 8 = d.s.size := by
  obtain ⟨h1, h2, h3, h4⟩ := e.end_bits h
  have hread : readTo d.s 0 (9 + e.steps) = valOf (e.term 1).bits := by
    rw [hs]; unfold Enc.text
    rw [packed_read _ h4 _ (by omega), ← h1, List.take_length]
  have hoff := hm.off
  have hw := hm.wid
  refine ⟨?_, hm.st.trans h3.symm, ?_⟩
  · unfold Dec.term
    rw [hm.over]
    simp only [Bool.false_eq_true, if_false]
    rw [if_pos (by omega)]
  · rw [hs, e.text_size h, hm.pos]
end Go.Proofs.YtibojidpifgblaaDoor
