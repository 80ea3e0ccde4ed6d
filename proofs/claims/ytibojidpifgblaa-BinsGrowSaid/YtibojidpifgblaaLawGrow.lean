/-
  BinsGrow: the walk.
-/
import Derived.Test.YtibojidpifgblaaLaw6Awake
import Derived.Test.YtibojidpifgblaaBinsLaws
namespace Go.Proofs.Ytibojidpifgblaa
open Go.RowKit

set_option maxRecDepth 100000 in
set_option maxHeartbeats 1600000 in
theorem law_grow (v : Int) (w : World) :
    Calls Try.prog 7 #[.int .i64 v] w fun e w' => e = .returned (.bool true) ∧ Only [] w w' := by
  obtain ⟨k, hk, hk1⟩ := u64mod v 32767 (by omega) (by omega)
  replace hk : wrap64 ((IntKind.u64.wrap v).tmod 32767) = (k : Int) := hk
  obtain ⟨l1, n1, e1, e2⟩ := grow_one k (by omega)
  obtain ⟨l2, n2, e3, e4⟩ := grow_mvd k (by omega)
  rw [← strOfNums_size, ← strOfNums_size] at l1 l2
  have c1 := fun w => bits_any 17 k 0 w
  have c2 := fun w => bits_any 17 (k + 1 : Nat) 0 w
  have c3 := fun w => bits_any 9 k 0 w
  have c4 := fun w => bits_any 9 (k + 1 : Nat) 0 w
  rw [e1] at c1
  rw [e2] at c2
  rw [e3] at c3
  rw [e4] at c4
  simp only [show ((k + 1 : Nat) : Int) = (k : Int) + 1 from by omega] at c2 c4 l1 l2 n1 n2
  generalize strOfNums (bitsL 17 k 0) = s1 at *
  generalize strOfNums (bitsL 17 ((k : Int) + 1) 0) = s2 at *
  generalize strOfNums (bitsL 9 k 0) = s3 at *
  generalize strOfNums (bitsL 9 ((k : Int) + 1) 0) = s4 at *
  have C1 := Lib.hid c1
  have C2 := Lib.hid c2
  have C3 := Lib.hid c3
  have C4 := Lib.hid c4
  clear c1 c2 c3 c4 e1 e2 e3 e4
  have b1 := text_ne n1
  have b2 := text_ne n2
  clear n1 n2
  go_enter Try.func7, Try.ntmps7
  go_wp2_with fail
  refine (awake6 _).mono ?_
  rintro e w1 ⟨rfl, h1⟩
  have H1 := Lib.hid h1
  clear h1
  go_wp2_with fail
  refine (C1.out _).mono ?_
  rintro e w2 ⟨rfl, h2⟩
  have H2 := Lib.hid ((H1.out).trans h2)
  clear h2
  go_wp2_with fail
  refine (C2.out _).mono ?_
  rintro e w3 ⟨rfl, h3⟩
  have H3 := Lib.hid ((H2.out).trans h3)
  clear h3
  go_wp2_with fail
  refine (C3.out _).mono ?_
  rintro e w4 ⟨rfl, h4⟩
  have H4 := Lib.hid ((H3.out).trans h4)
  clear h4
  go_wp2_with fail
  refine (C4.out _).mono ?_
  rintro e w5 ⟨rfl, h5⟩
  have H5 := Lib.hid ((H4.out).trans h5)
  clear h5
  go_wp2_with (first | (go_at_call 10; refine (num_any _ _).mono ?_; rintro e w' ⟨rfl, rfl⟩))
  go_ways
  all_goals
    go_ret
    exact ⟨rfl, H5.out⟩
end Go.Proofs.Ytibojidpifgblaa
