/-
  zoetropelaw5's awake answers true, whatever the world in which the library's table of blanks stands as it was laid.
-/
import Derived.Test.YtibojidpifgblaaDoorHold
namespace Go.Proofs.YtibojidpifgblaaDoor
open Go.RowKit

def aw0 : Enc := Enc.new [0, 60]
def aw1 : Enc := aw0.bin 0 1
def aw2 : Enc := aw1.bin 1 0
def aw3 : Enc := aw2.bypass 1
def aw4 : Enc := aw3.term 1
def awS : ByteArray := strOfNums (packed aw4.bits)
def awD0 : Dec := Dec.begin awS [0, 60]
def awD1 : Dec := (awD0.bin 0).2.2
def awD2 : Dec := (awD1.bin 1).2.2
def awD3 : Dec := awD2.bypass.2.2
def awD4 : Dec := awD3.term.2.2
theorem aw_codes : aw0.canBin 0 1 = true ∧ aw1.canBin 1 0 = true ∧ aw2.may 1 = true ∧ aw3.may 1 = true ∧ beginCode awS = 0 ∧ (awD0.bin 0).1 = 1 ∧ (awD1.bin 1).1 = 0 ∧ awD2.bypass.1 = 1 ∧ awD3.term.1 = 1 ∧ awD4.bypass.2.1 = 501 ∧ awS.size < 10 ∧ aw4.cost < 100 := by
  refine ⟨?_, ?_, ?_, ?_, ?_, ?_, ?_, ?_, ?_, ?_, ?_, ?_⟩ <;> decide +kernel

set_option maxRecDepth 100000 in
set_option maxHeartbeats 1600000 in
theorem awake5 (w : World) (ha : Asc w) : Calls Tryd.prog 16 #[] w fun e w' => e = .returned (.bool true) ∧ Only [] w w' := by
  have Ha := Lib.hid ha
  go_enter Tryd.func16, Tryd.ntmps16
  obtain ⟨q1, q2, q3, q4, q5, q6, q7, q8, q9, q10, q11, q12⟩ := aw_codes
  go_wp2_with fail
  have ho1 : Only [] w (w.alloc (.cells #[.int .i64 0, .int .i64 60] 3)) := (Only.refl _ _).alloc _
  have hv1 : IntSlice (w.alloc (.cells #[.int .i64 0, .int .i64 60] 3)) (.slice (some ⟨w.heap.size, 0, none⟩) 2 2) [0, 60] := IntSlice.of_block (e := 3) (xs := [0, 60]) (heap_alloc_at _ _)
  refine (enc_new ha ho1 _ [0, 60] hv1 (by decide)).mono ?_
  rintro r w1 ⟨b, tb, sb, rfl, h1, -, -, -, -⟩
  have H1 : Hid (EncAt w w1 b tb sb (.slice none 0 0) aw0) := Lib.hid h1
  clear h1 ho1 hv1
  go_wp2_with fail
  refine (H1.out.bin 0 1 (by decide)).mono ?_
  rintro r w2 ⟨rfl, ov2, h2, -⟩
  rw [q1, show codeOf true = 0 from rfl]
  have H2 : Hid (EncAt w w2 b tb sb ov2 aw1) := Lib.hid h2
  clear h2
  go_wp2_with fail
  refine (H2.out.bin 1 0 (by decide +kernel)).mono ?_
  rintro r w3 ⟨rfl, ov3, h3, -⟩
  rw [q2, show codeOf true = 0 from rfl]
  have H3 : Hid (EncAt w w3 b tb sb ov3 aw2) := Lib.hid h3
  clear h3
  go_wp2_with fail
  refine (H3.out.bypass 1 (by decide +kernel)).mono ?_
  rintro r w4 ⟨rfl, ov4, h4, -⟩
  rw [q3, show codeOf true = 0 from rfl]
  have H4 : Hid (EncAt w w4 b tb sb ov4 aw3) := Lib.hid h4
  clear h4
  go_wp2_with fail
  refine (H4.out.term 1 (by decide +kernel)).mono ?_
  rintro r w5 ⟨rfl, ov5, h5, -⟩
  rw [q4, show codeOf true = 0 from rfl]
  have H5 : Hid (EncAt w w5 b tb sb ov5 aw4) := Lib.hid h5
  clear h5
  go_wp2_with fail
  refine (H5.out.bytes).mono ?_
  rintro r w6 ⟨rfl, rfl⟩
  rw [show strOfNums (packed aw4.bits) = awS from rfl]
  go_wp2_with fail
  have ho1 : Only [] w (w5.alloc (.cells #[.int .i64 0, .int .i64 60] 3)) := H5.out.on.alloc _
  have hv1 : IntSlice (w5.alloc (.cells #[.int .i64 0, .int .i64 60] 3)) (.slice (some ⟨w5.heap.size, 0, none⟩) 2 2) [0, 60] := IntSlice.of_block (e := 3) (xs := [0, 60]) (heap_alloc_at _ _)
  refine (dec_new ha ho1 awS _ [0, 60] hv1 (by decide) (by omega)).mono ?_
  rintro r w6 ⟨b2, tb2, sb2, rfl, h1, -, -, -, -⟩
  have hp : beginPtr awS b2 = .pointer (some ⟨b2, 0, none⟩) := by unfold beginPtr; rw [q5, if_pos rfl]
  rw [hp, q5]
  have D0 : Hid (DecAt w w6 b2 tb2 sb2 awD0) := Lib.hid (h1 q5)
  clear h1 ho1 hv1 hp
  go_wp2_with (first | (go_at_call 21; refine (num_any _ _).mono ?_; rintro e w' ⟨rfl, rfl⟩))
  refine (D0.out.bin 0 (by show awS.size ≤ _; omega)).mono ?_
  rintro r w7 ⟨rfl, h1, -⟩
  rw [q6]
  have D1 : Hid (DecAt w w7 b2 tb2 sb2 awD1) := Lib.hid h1
  clear h1
  go_wp2_with fail
  refine (D1.out.bin 1 (by show awS.size ≤ _; omega)).mono ?_
  rintro r w8 ⟨rfl, h1, -⟩
  rw [q7]
  have D2 : Hid (DecAt w w8 b2 tb2 sb2 awD2) := Lib.hid h1
  clear h1
  go_wp2_with fail
  refine (D2.out.bypass (by show awS.size ≤ _; omega)).mono ?_
  rintro r w9 ⟨rfl, h1, -⟩
  rw [q8]
  have D3 : Hid (DecAt w w9 b2 tb2 sb2 awD3) := Lib.hid h1
  clear h1
  go_wp2_with fail
  refine (D3.out.term (by show awS.size ≤ _; omega)).mono ?_
  rintro r w10 ⟨rfl, h1, -⟩
  rw [q9]
  have D4 : Hid (DecAt w w10 b2 tb2 sb2 awD4) := Lib.hid h1
  clear h1
  go_wp2_with fail
  refine (D4.out.bypass (by show awS.size ≤ _; omega)).mono ?_
  rintro r w11 ⟨rfl, h1, -⟩
  rw [q10]
  have H11 := Lib.hid h1.on
  clear h1
  go_wp2_with fail
  refine (eng_range 0 0 w11 (Ha.out.only H11.out (by simp))).mono ?_
  rintro r w12 ⟨rfl, h1⟩
  rw [show rangeOf 0 0 = 128 from by decide]
  have H12 := Lib.hid (H11.out.trans h1)
  clear h1
  go_wp2_with fail
  refine (eng_Next 0 false w12 (Ha.out.only H12.out (by simp))).mono ?_
  rintro r w13 ⟨rfl, h1⟩
  rw [show stepOf 0 false = 1 from by decide]
  have H13 := Lib.hid (H12.out.trans h1)
  clear h1
  go_wp2_with (first | (go_at_call 21; refine (num_any _ _).mono ?_; rintro e w' ⟨rfl, rfl⟩))
  go_ret
  exact ⟨rfl, H13.out⟩
end Go.Proofs.YtibojidpifgblaaDoor
