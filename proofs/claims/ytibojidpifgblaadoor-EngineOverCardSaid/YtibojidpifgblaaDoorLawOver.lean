/-
  EngineOver: behind its end an encoder takes nothing.
-/
import Derived.Test.YtibojidpifgblaaDoorLaw5Awake
namespace Go.Proofs.YtibojidpifgblaaDoor
open Go.RowKit

def ov0 : Enc := Enc.new [10, 20]
def ov1 : Enc := ov0.term 1
theorem ov_facts : ov0.may 1 = true ∧ ov1.canBin 0 0 = false ∧ ov1.may 0 = false ∧ ov1.bin 0 0 = ov1 ∧ ov1.bypass 0 = ov1 ∧ ov1.term 0 = ov1 ∧ ov1.st = [10, 20] ∧ ov1.cost < 100 := by
  have h : ov1.over = true := by decide +kernel
  have h1 : ov1.may 0 = false := by unfold Enc.may; rw [h]; rfl
  have h2 : ov1.canBin 0 0 = false := by unfold Enc.canBin; rw [h1]; rfl
  refine ⟨by decide +kernel, h2, h1, ?_, ?_, ?_, by decide +kernel, by decide +kernel⟩
  · unfold Enc.bin; rw [h2]; rfl
  · unfold Enc.bypass; rw [h1]; rfl
  · unfold Enc.term; rw [h1]; rfl
theorem ov_no (c x : Int) (h : ¬ (0 ≤ c ∧ c < 2) ∨ ¬ (x = 0 ∨ x = 1)) : ov0.canBin c x = false ∧ ov0.bin c x = ov0 := by
  have h1 : ov0.canBin c x = false := by
    unfold Enc.canBin Enc.may
    rcases h with h | h
    · rw [show decide (0 ≤ c ∧ c < (ov0.st.length : Int)) = false from decide_eq_false h, Bool.and_false]
    · rw [show (x == 0) = false by simp; omega, show (x == 1) = false by simp; omega]; rfl
  exact ⟨h1, by unfold Enc.bin; rw [h1]; rfl⟩

set_option maxRecDepth 100000 in
set_option maxHeartbeats 1600000 in
theorem law_over (ctx b : Int) (w : World) (ha : Asc w) : Calls Tryd.prog 7 #[.int .i64 ctx, .int .i64 b] w fun e w' => e = .returned (.bool true) ∧ Only [] w w' := by
  have Ha := Lib.hid ha
  obtain ⟨q1, q2, q3, q4, q5, q6, q7, q8⟩ := ov_facts
  go_enter Tryd.func7, Tryd.ntmps7
  go_wp2_with fail
  refine (awake5 w ha).mono ?_
  rintro r w1 ⟨rfl, h1⟩
  have H1 := Lib.hid h1
  clear h1
  go_wp2_with fail
  have ho1 : Only [] w (w1.alloc (.cells #[.int .i64 10, .int .i64 20] 3)) := H1.out.alloc _
  have hv1 : IntSlice (w1.alloc (.cells #[.int .i64 10, .int .i64 20] 3)) (.slice (some ⟨w1.heap.size, 0, none⟩) 2 2) [10, 20] := IntSlice.of_block (e := 3) (xs := [10, 20]) (heap_alloc_at _ _)
  refine (enc_new ha ho1 _ [10, 20] hv1 (by decide)).mono ?_
  rintro r w2 ⟨b1, tb, sb, rfl, h2, -, -, -, -⟩
  have H2 : Hid (EncAt w w2 b1 tb sb (.slice none 0 0) ov0) := Lib.hid h2
  clear h2 ho1 hv1
  obtain ⟨c2, hc2⟩ : ∃ c, c = ctx % 8 := ⟨_, rfl⟩
  obtain ⟨b2, hb2⟩ : ∃ c, c = b % 4 := ⟨_, rfl⟩
  have hc3 : 0 ≤ c2 ∧ c2 < 8 := by omega
  have hb3 : 0 ≤ b2 ∧ b2 < 4 := by omega
  obtain ⟨hc4, hc5⟩ := hc3
  obtain ⟨hb4, hb5⟩ := hb3
  go_wp2_with fail
  rw [← hc2]
  obtain ⟨n1, n2⟩ := ov_no (2 + c2) 0 (.inl (by omega))
  refine (H2.out.bin (2 + c2) 0 (by decide)).mono ?_
  rintro r w3 ⟨rfl, o3, h3, -⟩
  rw [n2] at h3
  rw [n1, show codeOf false = 501 from rfl]
  have H3 := Lib.hid h3
  clear h3 n1 n2
  go_wp2_with fail
  rw [← hb2]
  obtain ⟨n1, n2⟩ := ov_no 0 (2 + b2) (.inr (by omega))
  refine (H3.out.bin 0 (2 + b2) (by decide)).mono ?_
  rintro r w4 ⟨rfl, o4, h4, -⟩
  rw [n2] at h4
  rw [n1, show codeOf false = 501 from rfl]
  have H4 := Lib.hid h4
  clear h4 n1 n2 hc2 hb2
  go_wp2_with fail
  refine (H4.out.term 1 (by decide)).mono ?_
  rintro r w5 ⟨rfl, o5, h5, -⟩
  have H5 : Hid (EncAt w w5 b1 tb sb o5 ov1) := Lib.hid h5
  clear h5
  go_wp2_with fail
  refine (H5.out.bytes).mono ?_
  rintro r w6 ⟨rfl, rfl⟩
  obtain ⟨s, hs⟩ : ∃ s, s = strOfNums (packed ov1.bits) := ⟨_, rfl⟩
  rw [← hs]
  have Hs := Lib.hid hs
  clear hs
  go_wp2_with fail
  refine (H5.out.bin 0 0 (by omega)).mono ?_
  rintro r w6 ⟨rfl, o6, h6, -⟩
  rw [q4] at h6
  rw [q2, show codeOf false = 501 from rfl]
  have H6 := Lib.hid h6
  clear h6
  go_wp2_with fail
  refine (H6.out.bypass 0 (by omega)).mono ?_
  rintro r w7 ⟨rfl, o7, h7, -⟩
  rw [q5] at h7
  rw [q3, show codeOf false = 501 from rfl]
  have H7 := Lib.hid h7
  clear h7
  go_wp2_with fail
  refine (H7.out.term 0 (by omega)).mono ?_
  rintro r w8 ⟨rfl, o8, h8, -⟩
  rw [q6] at h8
  rw [q3, show codeOf false = 501 from rfl]
  have H8 := Lib.hid h8
  clear h8
  go_wp2_with (first | (go_at_call 21; refine (num_any _ _).mono ?_; rintro e w' ⟨rfl, rfl⟩))
  refine (H8.out.bytes).mono ?_
  rintro r w9 ⟨rfl, rfl⟩
  rw [← Hs.out]
  have hss : (s.toList == s.toList) = true := text_eq rfl
  go_wp2_with fail
  refine (H8.out.states (by rw [q7]; decide)).mono ?_
  rintro r w9 ⟨v, rfl, h9, h9a, h9b⟩
  have hv := IntSlice.of_owned h9
  rw [q7] at hv
  have H9 := Lib.hid h9a.on
  have Hv := Lib.hid hv
  clear h9 h9a h9b hv
  go_wp2_with fail
  have ho1 : Only [] w9 (w9.alloc (.cells #[.int .i64 10, .int .i64 20] 3)) := (Only.refl _ _).alloc _
  have hv1 : IntSlice (w9.alloc (.cells #[.int .i64 10, .int .i64 20] 3)) (.slice (some ⟨w9.heap.size, 0, none⟩) 2 2) [10, 20] := IntSlice.of_block (e := 3) (xs := [10, 20]) (heap_alloc_at _ _)
  refine (same_ints v _ [10, 20] [10, 20] _ (Hv.out.only ho1 (by simp)) hv1 (by decide) (by decide)).mono ?_
  rintro r w10 ⟨rfl, h10⟩
  have H10 := Lib.hid ((H9.out.trans ho1).trans h10)
  clear h10 ho1 hv1
  rw [show decide ([10, 20] = [10, (20 : Int)]) = true by decide]
  go_wp2
  go_ret
  exact ⟨rfl, H10.out⟩
end Go.Proofs.YtibojidpifgblaaDoor
