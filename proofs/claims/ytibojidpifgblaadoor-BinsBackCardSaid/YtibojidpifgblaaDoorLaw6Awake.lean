/-
  zoetropelaw6's awake answers true, whatever the world.
-/
import Derived.Test.YtibojidpifgblaaDoorRefBins
import Derived.Test.YtibojidpifgblaaDoorPlain
namespace Go.Proofs.YtibojidpifgblaaDoor
open Go.RowKit

theorem bits_lit (el v most : Int) (xs : List Int) (er : Int) (s : ByteArray) (h1 : bitsL el v most = xs) (h2 : bitsE el v most = er) (h3 : strOfNums xs = s) (w : World) :
    Calls Tryd.prog 62 #[.int .i64 el, .int .i64 v, .int .i64 most] w fun e w' => e = .returned (.tuple #[.string s, .int .i64 er]) ∧ Only [] w w' := by
  subst h1 h2 h3
  exact bits_any el v most w

theorem initL_length (q : Int) : (initL q).length = 256 := by simp [initL]
theorem init_slice {w : World} {g : Nat} {qp : Int} (h : w.heap[g]? = some (.cells (ints (initL qp)) 3 (0, 0))) : IntSlice w (.slice (some ⟨g, 0, none⟩) 256 256) (initL qp) := by
  have := IntSlice.of_block (cap := 256) h
  rw [initL_length] at this
  exact this

set_option maxRecDepth 100000 in
set_option maxHeartbeats 1600000 in
theorem awake6 (w : World) : Calls Tryd.prog 40 #[] w fun e w' => e = .returned (.bool true) ∧ Only [] w w' := by
  go_enter Tryd.func40, Tryd.ntmps40
  go_wp2_with fail
  refine (bits_lit 9 (-2) 0 [49, 49, 48, 98] 0 ⟨#[49, 49, 48, 98]⟩ (by decide) (by decide) rfl _).mono ?_
  rintro e w1 ⟨rfl, h1⟩
  have H1 := Lib.hid h1
  clear h1
  go_wp2_with fail
  refine (bits_lit 0 2 0 [] 600 ⟨#[]⟩ (by decide) (by decide) rfl _).mono ?_
  rintro e w2 ⟨rfl, h2⟩
  have H2 := Lib.hid ((H1.out).trans h2)
  clear h2
  go_wp2_with fail
  refine (bits_lit 17 15 0 [49, 49, 49, 49, 49, 49, 49, 49, 49, 49, 49, 49, 49, 49, 98, 97, 97] 0 ⟨#[49, 49, 49, 49, 49, 49, 49, 49, 49, 49, 49, 49, 49, 49, 98, 97, 97]⟩ (by decide) (by decide) rfl _).mono ?_
  rintro e w3 ⟨rfl, h3⟩
  have H3 := Lib.hid ((H2.out).trans h3)
  clear h3
  go_wp2_with fail
  refine (bins_init 26 _ (by omega) (by omega)).mono ?_
  rintro e w4 ⟨g, rfl, hb, hg, h4⟩
  have H4 := Lib.hid ((H3.out).trans h4)
  have Hb := Lib.hid hb
  clear h4 hb
  go_wp2_with (first | (go_at_call 21; refine (num_any _ _).mono ?_; rintro e w' ⟨rfl, rfl⟩))
  refine (ref_init 26 _ (by omega) (by omega)).mono ?_
  rintro e w5 ⟨g2, rfl, hb2, hg2, h5⟩
  have H5 := Lib.hid ((H4.out).trans h5)
  have Hs := Lib.hid (same_ints (.slice (some ⟨g, 0, none⟩) (initL 26).length 256) (.slice (some ⟨g2, 0, none⟩) (initL 26).length 256) (initL 26) (initL 26) w5
    (IntSlice.of_block (h5.heap Hb.out (by simp))) (IntSlice.of_block hb2) (by rw [initL_length]; omega) (by rw [initL_length]; omega))
  clear h5 hb2
  go_wp2_with fail
  have hs := Hs.out
  rw [initL_length] at hs
  refine hs.mono ?_
  rintro e w6 ⟨rfl, h6⟩
  have H6 := Lib.hid ((H5.out).trans h6)
  clear h6 hs
  go_wp2
  go_ret
  exact ⟨ret_bool (by simp), H6.out⟩
end Go.Proofs.YtibojidpifgblaaDoor
