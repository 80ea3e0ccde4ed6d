/-
  EngineEnds: a decoder of fewer than nine bits is none, nor one that begins with 510 or 511; one whose bits end says so, and stays.
-/
import Derived.Test.YtibojidpifgblaaDoorLaw5Awake
namespace Go.Proofs.YtibojidpifgblaaDoor
open Go.RowKit

theorem byte_bits (x : Nat) (h : x < 256) : 2 * (2 * (2 * (2 * (2 * (2 * (2 * (x / 128 % 2) + x / 64 % 2) + x / 32 % 2) + x / 16 % 2) + x / 8 % 2) + x / 4 % 2) + x / 2 % 2) + x % 2 = x := by omega
theorem first_byte (s : ByteArray) (h : 0 < s.size) : readTo s 0 8 = (s[0].toNat : Int) := by
  have h0 : s.data.toList.getD 0 0 = s[0] := by
    simp only [List.getD, Array.getElem?_toList]
    rw [Array.getElem?_eq_getElem (show 0 < s.data.size from h)]
    rfl
  have hb : ∀ i, i < 8 → bitOf s i = ((s[0].toNat / 2 ^ (7 - i) % 2 : Nat) : Int) := by
    intro i hi
    unfold bitOf
    rw [show i / 8 = 0 by omega, show i % 8 = i by omega, h0]
  have hx := byte_bits s[0].toNat s[0].toNat_lt
  have h1 : readTo s 0 8 = 2 * (2 * (2 * (2 * (2 * (2 * (2 * (2 * 0 + bitOf s 0) + bitOf s 1) + bitOf s 2) + bitOf s 3) + bitOf s 4) + bitOf s 5) + bitOf s 6) + bitOf s 7 := rfl
  rw [h1, hb 0 (by omega), hb 1 (by omega), hb 2 (by omega), hb 3 (by omega), hb 4 (by omega), hb 5 (by omega), hb 6 (by omega), hb 7 (by omega)]
  simp only [Nat.sub_zero, Nat.reduceSub, Nat.reducePow]
  generalize s[0].toNat = x at *
  omega
theorem begin_255 (s : ByteArray) (h : 2 ≤ s.size) : (510 ≤ readTo s 0 9) ↔ s[0].toNat = 255 := by
  have h1 := first_byte s (by omega)
  have h2 : readTo s 0 9 = 2 * readTo s 0 8 + bitOf s (0 + 8) := rfl
  have h3 := bitOf_bit s (0 + 8)
  have h4 := s[0].toNat_lt
  rw [h2, h1]
  omega
theorem Dec.byp_step (d : Dec) (ho : d.over = false) (hh : d.pos + 1 ≤ 8 * d.s.size) : d.bypass.2.2.pos = d.pos + 1 ∧ d.bypass.2.2.over = false ∧ d.bypass.2.2.s = d.s ∧ d.bypass.2.2.st = d.st := by
  have h1 : d.has 1 = true := by unfold Dec.has; simpa using hh
  unfold Dec.bypass
  rw [ho, h1]
  simp only [Bool.false_eq_true, if_false, if_true]
  split <;> exact ⟨rfl, rfl, rfl, rfl⟩
theorem Dec.byp_end (d : Dec) (ho : d.over = false) (hh : d.pos = 8 * d.s.size) : d.bypass = (0, 500, d) := by
  have h1 : d.has 1 = false := by unfold Dec.has; simp; omega
  unfold Dec.bypass
  rw [ho, h1]
  simp

theorem begin_short (t : ByteArray) (h : t.size < 2) : beginCode t = 500 := by unfold beginCode; rw [if_pos h]
theorem short_size (s : ByteArray) (k : Nat) (h : s.size ≤ 140737488355328) : (s.extract 0 k).size ≤ 140737488355328 := by simp [ByteArray.size_extract]; omega

set_option maxRecDepth 100000 in
set_option maxHeartbeats 1600000 in
theorem law_ends (s : ByteArray) (w : World) (ha : Asc w) (hs : s.size ≤ 140737488355328) : Calls Tryd.prog 9 #[.string s] w fun e w' => e = .returned (.bool true) ∧ Only [] w w' := by
  have Ha := Lib.hid ha
  go_enter Tryd.func9, Tryd.ntmps9
  go_wp2_with fail
  refine (awake5 w ha).mono ?_
  rintro r w1 ⟨rfl, h1⟩
  have H1 := Lib.hid h1
  clear h1
  by_cases hz : s.size = 0
  · have hB : beginCode s = 500 := begin_short s (by omega)
    have HB2 := Lib.hid hB
    clear hB
    have ho1 : Only [] w (w1.alloc (.cells #[.int .i64 60] 3)) := H1.out.alloc _
    have hv1 : IntSlice (w1.alloc (.cells #[.int .i64 60] 3)) (.slice (some ⟨w1.heap.size, 0, none⟩) 1 1) [60] := IntSlice.of_block (e := 3) (xs := [60]) (heap_alloc_at _ _)
    go_wp2_with fail
    refine (dec_new ha ho1 _ _ [60] hv1 (by decide) (short_size s _ hs)).mono ?_
    rintro r w2 ⟨b0, t0, s0, rfl, -, h2, -, -, -⟩
    rw [begin_short _ (by simp [ByteArray.size_extract] <;> omega)]
    have H2 := Lib.hid (ho1.trans h2)
    clear h2 ho1 hv1
    go_wp2_with fail
    have ho1 : Only [] w (w2.alloc (.cells #[.int .i64 60] 3)) := H2.out.alloc _
    have hv1 : IntSlice (w2.alloc (.cells #[.int .i64 60] 3)) (.slice (some ⟨w2.heap.size, 0, none⟩) 1 1) [60] := IntSlice.of_block (e := 3) (xs := [60]) (heap_alloc_at _ _)
    refine (dec_new ha ho1 s _ [60] hv1 (by decide) hs).mono ?_
    rintro r w3 ⟨b1, t1, s1, rfl, h3, h4, -, -, -⟩
    have H4 := Lib.hid (ho1.trans h4)
    clear h4 ho1 hv1
    have hp : beginPtr s b1 = .pointer none := by unfold beginPtr; rw [HB2.out, if_neg (by decide)]
    rw [hp, HB2.out]
    clear h3 hp
    go_wp2_with (first | (go_at_call 21; refine (num_any _ _).mono ?_; rintro e w' ⟨rfl, rfl⟩))
    go_ret
    exact ⟨rfl, H4.out⟩
  · have hmin : min (s.size : Int) 1 = 1 := by omega
    have hge : 1 ≤ s.size := by omega
    have ho1 : Only [] w (w1.alloc (.cells #[.int .i64 60] 3)) := H1.out.alloc _
    have hv1 : IntSlice (w1.alloc (.cells #[.int .i64 60] 3)) (.slice (some ⟨w1.heap.size, 0, none⟩) 1 1) [60] := IntSlice.of_block (e := 3) (xs := [60]) (heap_alloc_at _ _)
    go_wp2_with fail
    refine (dec_new ha ho1 _ _ [60] hv1 (by decide) (short_size s _ hs)).mono ?_
    rintro r w2 ⟨b0, t0, s0, rfl, -, h2, -, -, -⟩
    rw [begin_short _ (by simp [ByteArray.size_extract] <;> omega)]
    have H2 := Lib.hid (ho1.trans h2)
    clear h2 ho1 hv1
    go_wp2_with fail
    have ho1 : Only [] w (w2.alloc (.cells #[.int .i64 60] 3)) := H2.out.alloc _
    have hv1 : IntSlice (w2.alloc (.cells #[.int .i64 60] 3)) (.slice (some ⟨w2.heap.size, 0, none⟩) 1 1) [60] := IntSlice.of_block (e := 3) (xs := [60]) (heap_alloc_at _ _)
    refine (dec_new ha ho1 s _ [60] hv1 (by decide) hs).mono ?_
    rintro r w3 ⟨b1, t1, s1, rfl, h3, h4, -, -, -⟩
    have H4 := Lib.hid (ho1.trans h4)
    clear h4 ho1 hv1
    by_cases h2 : s.size < 2
    · have hB : beginCode s = 500 := begin_short s h2
      have HB2 := Lib.hid hB
      clear hB
      have hp : beginPtr s b1 = .pointer none := by unfold beginPtr; rw [HB2.out, if_neg (by decide)]
      rw [hp, HB2.out]
      clear h3 hp
      go_wp2_with (first | (go_at_call 21; refine (num_any _ _).mono ?_; rintro e w' ⟨rfl, rfl⟩))
      go_ret
      exact ⟨rfl, H4.out⟩
    · have hbb := begin_255 s (by omega)
      by_cases h255 : s[0].toNat = 255
      · have hB : beginCode s = 501 := by unfold beginCode; rw [if_neg h2, if_pos (hbb.2 h255)]
        have HB2 := Lib.hid hB
        clear hB hbb
        have hp : beginPtr s b1 = .pointer none := by unfold beginPtr; rw [HB2.out, if_neg (by decide)]
        rw [hp, HB2.out]
        clear h3 hp
        go_wp2_with (first | (go_at_call 21; refine (num_any _ _).mono ?_; rintro e w' ⟨rfl, rfl⟩))
        go_ret
        exact ⟨rfl, H4.out⟩
      · have hB : beginCode s = 0 := by unfold beginCode; rw [if_neg h2, if_neg (fun h => h255 (hbb.1 h))]
        have hp : beginPtr s b1 = .pointer (some ⟨b1, 0, none⟩) := by unfold beginPtr; rw [hB, if_pos rfl]
        have D0 := Lib.hid (h3 hB)
        rw [hp, hB]
        clear h3 hp hB hbb
        go_wp2_with (first | (go_at_call 21; refine (num_any _ _).mono ?_; rintro e w' ⟨rfl, rfl⟩))
        obtain ⟨K, hK⟩ : ∃ K, K = 8 * s.size - 9 := ⟨_, rfl⟩
        have hK1 : (K : Int) = 8 * (s.size : Int) - 9 := by omega
        have HK := Lib.hid hK1
        clear hK hK1
        go_loopw [8] (fun i wr => ∃ (j : Nat) (d : Dec), Hid (j ≤ K) ∧ i = .int .i64 j ∧ DecAt w wr b1 t1 s1 d ∧ Hid (d.pos = 9 + j) ∧ Hid (d.over = false) ∧ Hid (d.s = s) ∧ Hid (d.st = [60])) (fun i _ => K - (intOf i).toNat)
        case atStart => exact ⟨0, _, Lib.hid (Nat.zero_le _), rfl, D0.out, Lib.hid rfl, Lib.hid rfl, Lib.hid rfl, Lib.hid rfl⟩
        case round =>
          obtain ⟨j, d, hj, rfl, k1, k2, k3, k4, k5⟩ := hrel
          have K1 := Lib.hid k1
          clear k1
          have hds : d.s.size ≤ 140737488355328 := by rw [k4.out]; exact hs
          by_cases hlt : (j : Int) < 8 * (s.size : Int) - 9
          · have hst := d.byp_step k3.out (by rw [k2.out, k4.out]; omega)
            go_wp2_with fail
            refine (K1.out.bypass hds).mono ?_
            rintro r w5 ⟨rfl, g1, -⟩
            have G1 := Lib.hid g1
            have Hst := Lib.hid hst
            clear g1 hst
            go_wp2
            go_roundw
            case rel => exact ⟨j + 1, _, Lib.hid (by have := HK.out; omega), by go_num, G1.out, Lib.hid (by rw [Hst.out.1, k2.out]; omega), Lib.hid Hst.out.2.1, Lib.hid (Hst.out.2.2.1.trans k4.out), Lib.hid (Hst.out.2.2.2.trans k5.out)⟩
            case measure =>
              have := HK.out
              simp [intOf] <;> omega
          · have hpe : d.pos = 8 * s.size := by have := k2.out; have := hj.out; have := HK.out; omega
            have hby := d.byp_end k3.out (by rw [k4.out]; exact hpe)
            have Hby := Lib.hid hby
            have Hpe := Lib.hid hpe
            clear hby hpe
            go_wp2_with fail
            refine (K1.out.bypass hds).mono ?_
            rintro r w5 ⟨rfl, g1, -⟩
            rw [Hby.out] at g1 ⊢
            have G1 := Lib.hid g1
            clear g1
            go_wp2_with fail
            refine (G1.out.bypass hds).mono ?_
            rintro r w6 ⟨rfl, g1, -⟩
            rw [Hby.out] at g1 ⊢
            have G2 := Lib.hid g1
            clear g1
            go_wp2_with (first | (go_at_call 21; refine (num_any _ _).mono ?_; rintro e w' ⟨rfl, rfl⟩))
            refine (G2.out.at).mono ?_
            rintro r w7 ⟨rfl, rfl⟩
            have hpi : (d.pos : Int) = 8 * (s.size : Int) := by have := Hpe.out; omega
            rw [hpi]
            clear hpi
            go_wp2_with (first | (go_at_call 21; refine (num_any _ _).mono ?_; rintro e w' ⟨rfl, rfl⟩))
            refine (G2.out.states (by rw [k5.out]; decide)).mono ?_
            rintro r w7 ⟨v1, rfl, g1, g2, g3⟩
            have hv := IntSlice.of_owned g1
            rw [k5.out] at hv
            have Hv := Lib.hid hv
            have G3 := Lib.hid g2.on
            clear g1 g2 g3 hv
            go_wp2_with fail
            have ho1 : Only [] w7 (w7.alloc (.cells #[.int .i64 60] 3)) := (Only.refl _ _).alloc _
            have hv1 : IntSlice (w7.alloc (.cells #[.int .i64 60] 3)) (.slice (some ⟨w7.heap.size, 0, none⟩) 1 1) [60] := IntSlice.of_block (e := 3) (xs := [60]) (heap_alloc_at _ _)
            refine (same_ints v1 _ [60] [60] _ (Hv.out.only ho1 (by simp)) hv1 (by decide) (by decide)).mono ?_
            rintro r w8 ⟨rfl, h10⟩
            have H10 := Lib.hid ((G3.out.trans ho1).trans h10)
            clear h10 ho1 hv1
            rw [show decide ([60] = [(60 : Int)]) = true by decide]
            go_wp2
            go_ret
            exact ⟨rfl, H10.out⟩
end Go.Proofs.YtibojidpifgblaaDoor
