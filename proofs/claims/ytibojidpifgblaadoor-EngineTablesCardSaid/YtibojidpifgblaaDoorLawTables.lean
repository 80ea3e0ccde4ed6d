/-
  EngineTables: every Range and Next is the document's.
-/
import Derived.Test.YtibojidpifgblaaDoorLaw5Awake
import Derived.Test.YtibojidpifgblaaDoorRefA
namespace Go.Proofs.YtibojidpifgblaaDoor
open Go.RowKit

set_option maxRecDepth 100000 in
set_option maxHeartbeats 1600000 in
theorem law_tables (s q : Int) (w : World) (ha : Asc w) : Calls Tryd.prog 3 #[.int .i64 s, .int .i64 q] w fun e w' => e = .returned (.bool true) ∧ Only [] w w' := by
  have Ha := Lib.hid ha
  go_enter Tryd.func3, Tryd.ntmps3
  go_wp2_with fail
  refine (eng_range s q w ha).mono ?_
  rintro r w1 ⟨rfl, h1⟩
  have H1 := Lib.hid h1
  clear h1
  go_wp2_with fail
  refine (ref_range s q w1).mono ?_
  rintro r w2 ⟨rfl, h2⟩
  have H2 := Lib.hid (H1.out.trans h2)
  clear h2
  go_wp2_with fail
  refine (eng_Next s true w2 (Ha.out.only H2.out (by simp))).mono ?_
  rintro r w3 ⟨rfl, h3⟩
  have H3 := Lib.hid (H2.out.trans h3)
  clear h3
  go_wp2_with fail
  refine (ref_next s true w3).mono ?_
  rintro r w4 ⟨rfl, h4⟩
  have H4 := Lib.hid (H3.out.trans h4)
  clear h4
  go_wp2_with fail
  refine (eng_Next s false w4 (Ha.out.only H4.out (by simp))).mono ?_
  rintro r w5 ⟨rfl, h5⟩
  have H5 := Lib.hid (H4.out.trans h5)
  clear h5
  go_wp2_with fail
  refine (ref_next s false w5).mono ?_
  rintro r w6 ⟨rfl, h6⟩
  have H6 := Lib.hid (H5.out.trans h6)
  clear h6
  go_wp2_with fail
  refine (awake5 w6 (Ha.out.only H6.out (by simp))).mono ?_
  rintro r w7 ⟨rfl, h7⟩
  have H7 := Lib.hid (H6.out.trans h7)
  clear h7
  go_wp2
  go_ret
  exact ⟨rfl, H7.out⟩
end Go.Proofs.YtibojidpifgblaaDoor
