/-
  The walks over package sig's may, Put, Get.
-/
import Derived.Test.YtgmnkihldlajcaaGreatDoorSigC
import Derived.Test.YtgmnkihldlajcaaGreatDoorSigFit
import Derived.Test.YtgmnkihldlajcaaGreatDoorPlain
namespace Go.Proofs.YtgmnkihldlajcaaGreatDoor
open Go.RowKit

theorem levels_size (n : Int) (w : World) : Calls Tryz.prog 37 #[.int .i64 n] w fun r w' => r = .returned (.bool (sizeB n)) ∧ w = w' := by
  go_enter Tryz.func37, Tryz.ntmps37
  by_cases h4 : n = 4
  · subst h4
    go_wp2
    go_ret
    exact ⟨rfl, rfl⟩
  · have b4 : (n == 4) = false := by simp [h4]
    by_cases h15 : n = 15
    · subst h15
      go_wp2
      go_ret
      exact ⟨rfl, rfl⟩
    · have b15 : (n == 15) = false := by simp [h15]
      by_cases h16 : n = 16
      · subst h16
        go_wp2
        go_ret
        exact ⟨rfl, rfl⟩
      · have b16 : (n == 16) = false := by simp [h16]
        have hs : Hid (sizeB n = false) := Lib.hid (decide_eq_false (by omega))
        clear h4 h15 h16
        go_wp2
        go_ret
        exact ⟨ret_bool hs.out.symm, rfl⟩

theorem sig_may (n cat inc : Int) (w : World) : Calls Tryz.prog 23 #[.int .i64 n, .int .i64 cat, .int .i64 inc] w fun r w' => r = .returned (.int .i64 (mayCode (mayB n cat inc))) ∧ w = w' := by
  cases hs : sizeB n with
  | false =>
    have hm : mayB n cat inc = false := by unfold mayB; rw [hs]; rfl
    rw [hm]
    have Hs := Lib.hid hs
    clear hs hm
    go_enter Tryz.func23, Tryz.ntmps23
    go_wp2_with fail
    refine (levels_size n w).mono ?_
    rintro r w1 ⟨rfl, rfl⟩
    rw [Hs.out]
    go_wp2
    go_ret
    exact ⟨rfl, rfl⟩
  | true =>
    have Hs := Lib.hid hs
    have hcases : (0 ≤ cat ∧ cat ≤ 3 ∧ 0 ≤ inc ∧ inc ≤ 1) ∨ cat < 0 ∨ (0 ≤ cat ∧ 3 < cat) ∨ (0 ≤ cat ∧ cat ≤ 3 ∧ inc < 0) ∨ (0 ≤ cat ∧ cat ≤ 3 ∧ 0 ≤ inc ∧ 1 < inc) := by omega
    rcases hcases with ⟨h1, h2, h3, h4⟩ | h1 | ⟨h1, h2⟩ | ⟨h1, h2, h3⟩ | ⟨h1, h2, h3, h4⟩
    · have hm : mayB n cat inc = true := by unfold mayB; rw [hs, decide_eq_true ⟨h1, h2, h3, h4⟩]; rfl
      rw [hm]
      clear hs hm
      go_enter Tryz.func23, Tryz.ntmps23
      go_wp2_with fail
      refine (levels_size n w).mono ?_
      rintro r w1 ⟨rfl, rfl⟩
      rw [Hs.out]
      go_wp2
      go_ret
      exact ⟨rfl, rfl⟩
    all_goals
      have hm : mayB n cat inc = false := by unfold mayB; rw [hs, decide_eq_false (by omega)]; rfl
      rw [hm]
      clear hs hm
      go_enter Tryz.func23, Tryz.ntmps23
      go_wp2_with fail
      refine (levels_size n w).mono ?_
      rintro r w1 ⟨rfl, rfl⟩
      rw [Hs.out]
      go_wp2
      go_ret
      exact ⟨rfl, rfl⟩
theorem sigput_nil (v cat inc : Value) (w : World) : Calls Tryz.prog 9 #[.pointer none, v, cat, inc] w fun r w' => r = .returned (.int .i64 1) ∧ w = w' := by
  go_enter Tryz.func9, Tryz.ntmps9
  go_wp2
  go_ret
  exact ⟨rfl, rfl⟩
end Go.Proofs.YtgmnkihldlajcaaGreatDoor
