/-
  BinsBits and BinsInits: the walks.
-/
import Derived.Test.YtibojidpifgblaaLaw6Awake
namespace Go.Proofs.Ytibojidpifgblaa
open Go.RowKit

set_option maxRecDepth 100000 in
set_option maxHeartbeats 800000 in
theorem law_bits (el v most : Int) (w : World) :
    Calls Try.prog 3 #[.int .i64 el, .int .i64 v, .int .i64 most] w fun e w' => e = .returned (.bool true) ∧ Only [] w w' := by
  have c1 := fun w => bits_any el v most w
  have c2 := fun w => refbits_any el v most w
  generalize strOfNums (bitsL el v most) = s at *
  generalize bitsE el v most = er at *
  have C1 := Lib.hid c1
  have C2 := Lib.hid c2
  clear c1 c2
  go_enter Try.func3, Try.ntmps3
  go_wp2_with fail
  refine (C1.out _).mono ?_
  rintro e w1 ⟨rfl, h1⟩
  have H1 := Lib.hid h1
  clear h1
  go_wp2_with fail
  refine (C2.out _).mono ?_
  rintro e w2 ⟨rfl, h2⟩
  have H2 := Lib.hid ((H1.out).trans (Only.of_below h2))
  clear h2
  go_wp2_with (first | (go_at_call 10; refine (num_any _ _).mono ?_; rintro e w' ⟨rfl, rfl⟩))
  refine (awake6 _).mono ?_
  rintro e w3 ⟨rfl, h3⟩
  have H3 := Lib.hid ((H2.out).trans h3)
  clear h3
  go_wp2
  go_ret
  exact ⟨rfl, H3.out⟩

set_option maxRecDepth 100000 in
set_option maxHeartbeats 1600000 in
theorem law_inits (qp : Int) (w : World) (h0 : -9223372036854775808 ≤ qp) (h1 : qp ≤ 9223372036854775807) :
    Calls Try.prog 4 #[.int .i64 qp] w fun e w' => e = .returned (.bool true) ∧ Only [] w w' := by
  have c1 := fun w => bins_init qp w h0 h1
  have c2 := fun w => ref_init qp w h0 h1
  have hlen := initL_length qp
  have hr : ∀ i, 0 ≤ (initL qp).getD i 0 ∧ (initL qp).getD i 0 ≤ 1000000 := by
    intro i
    by_cases hi : i < 256
    · have e : (initL qp).getD i 0 = initAt (clampQp qp) i := by simp [initL, List.getD, hi]
      rw [e]
      unfold initAt initY
      omega
    · have e : (initL qp)[i]? = Option.none := List.getElem?_eq_none (by rw [hlen]; omega)
      simp [List.getD, e]
  generalize initL qp = L at *
  have C1 := Lib.hid c1
  have C2 := Lib.hid c2
  have Hr := Lib.hid hr
  have Hlen := Lib.hid hlen
  clear c1 c2 hr hlen
  have hs : ∀ (g1 g2 : Nat) (w : World), w.heap[g1]? = some (.cells (ints L) 3 (0, 0)) → w.heap[g2]? = some (.cells (ints L) 3 (0, 0)) →
      Calls Try.prog 14 #[.slice (some ⟨g1, 0, none⟩) 256 256, .slice (some ⟨g2, 0, none⟩) 256 256] w fun e w' => e = .returned (.bool true) ∧ Only [] w w' := by
    intro g1 g2 w b1 b2
    have := same_ints (.slice (some ⟨g1, 0, none⟩) L.length 256) (.slice (some ⟨g2, 0, none⟩) L.length 256) L L w (IntSlice.of_block b1) (IntSlice.of_block b2) (by rw [Hlen.out]; omega) (by rw [Hlen.out]; omega)
    rw [Hlen.out] at this
    exact this.mono fun e w' ⟨he, h⟩ => ⟨by rw [he]; simp, h⟩
  have Hs := Lib.hid hs
  clear hs h0 h1
  go_enter Try.func4, Try.ntmps4
  go_wp2_with fail
  refine (C1.out _).mono ?_
  rintro e w1 ⟨ga, rfl, ba, la, h1⟩
  have H1 := Lib.hid h1
  have Ba := Lib.hid ba
  clear h1 ba
  go_wp2_with fail
  refine (C1.out _).mono ?_
  rintro e w2 ⟨gb, rfl, bb, lb, h2⟩
  have H2 := Lib.hid ((H1.out).trans h2)
  have Ba2 := Lib.hid (h2.heap Ba.out (by simp))
  have Bb := Lib.hid bb
  have hab : ga < gb := by have := lt_of_block Ba.out; omega
  clear h2 bb
  go_wp2_with fail
  refine (C2.out _).mono ?_
  rintro e w3 ⟨gc, rfl, bc, lc, h3⟩
  have H3 := Lib.hid ((H2.out).trans h3)
  have Ba3 := Lib.hid (h3.heap Ba2.out (by simp))
  have Bb3 := Lib.hid (h3.heap Bb.out (by simp))
  have Bc := Lib.hid bc
  have hbc : gb < gc := by have := lt_of_block Bb.out; omega
  clear h3 bc
  go_wp2_with fail
  refine (Hs.out _ _ _ Ba3.out Bc.out).mono ?_
  rintro e w4 ⟨rfl, h4⟩
  have H4 := Lib.hid ((H3.out).trans h4)
  have Ba4 := Lib.hid (h4.heap Ba3.out (by simp))
  have Bb4 := Lib.hid (h4.heap Bb3.out (by simp))
  have Bc4 := Lib.hid (h4.heap Bc.out (by simp))
  clear h4
  go_wp2_with fail
  have hsp := spoil_ints ga 256 L w4 Ba4.out (by rw [Hlen.out]; omega) Hr.out
  rw [Hlen.out] at hsp
  refine hsp.mono ?_
  clear hsp
  rintro e w5 ⟨rfl, h5⟩
  have H5 := Lib.hid ((H4.out).trans' h5 (by simp; omega))
  have Bb5 := Lib.hid (h5.heap Bb4.out (by simp; omega))
  have Bc5 := Lib.hid (h5.heap Bc4.out (by simp; omega))
  clear h5
  go_wp2_with fail
  refine (Hs.out _ _ _ Bb5.out Bc5.out).mono ?_
  rintro e w6 ⟨rfl, h6⟩
  have H6 := Lib.hid ((H5.out).trans h6)
  have Bc6 := Lib.hid (h6.heap Bc5.out (by simp))
  clear h6
  go_wp2_with fail
  refine (C1.out _).mono ?_
  rintro e w7 ⟨gd, rfl, bd, ld, h7⟩
  have H7 := Lib.hid ((H6.out).trans h7)
  have Bc7 := Lib.hid (h7.heap Bc6.out (by simp))
  have Bd := Lib.hid bd
  clear h7 bd
  go_wp2_with fail
  refine (Hs.out _ _ _ Bd.out Bc7.out).mono ?_
  rintro e w8 ⟨rfl, h8⟩
  have H8 := Lib.hid ((H7.out).trans h8)
  clear h8
  go_wp2_with fail
  refine (awake6 _).mono ?_
  rintro e w9 ⟨rfl, h9⟩
  have H9 := Lib.hid ((H8.out).trans h9)
  clear h9
  go_wp2
  go_ret
  exact ⟨rfl, H9.out⟩
end Go.Proofs.Ytibojidpifgblaa
