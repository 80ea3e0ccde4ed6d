/-
  The walks over the document's answer for the engine (package zoetroperef5): widths, lesser, Range, Next, States.
-/
import Derived.Test.YtgmnkihldlajcaaGreatDoorEngA
import Derived.Test.YtgmnkihldlajcaaGreatDoorLib
namespace Go.Proofs.YtgmnkihldlajcaaGreatDoor
open Go.RowKit

set_option maxRecDepth 100000 in
set_option maxHeartbeats 1600000 in
theorem ref_widths (w : World) : Calls Tryz.prog 21 #[] w fun e w' => e = .returned (.slice (some ⟨w.heap.size, 0, none⟩) 256 256) ∧ w' = w.alloc (.cells (ints widthL) 3) := by
  go_enter Tryz.func21, Tryz.ntmps21
  go_wp2_with (refine wpList_literal rfl _ 256 _ rfl elt64 rfl (ints widthL) (by decide) (by decide) (by kernel_rfl) ?_)
  go_ret
  exact ⟨rfl, rfl⟩
set_option maxRecDepth 100000 in
set_option maxHeartbeats 1600000 in
theorem ref_lesser (w : World) : Calls Tryz.prog 76 #[] w fun e w' => e = .returned (.slice (some ⟨w.heap.size, 0, none⟩) 64 64) ∧ w' = w.alloc (.cells (ints downL) 3) := by
  go_enter Tryz.func76, Tryz.ntmps76
  go_wp2_with (refine wpList_literal rfl _ 64 _ rfl elt64 rfl (ints downL) (by decide) (by decide) (by kernel_rfl) ?_)
  go_ret
  exact ⟨rfl, rfl⟩

theorem int_halves (s : Int) (h : 0 ≤ s) : Int.tdiv s 2 = s / 2 ∧ Int.tmod s 2 = s % 2 := ⟨Int.tdiv_eq_ediv_of_nonneg h, Int.tmod_eq_emod_of_nonneg h⟩

set_option maxRecDepth 100000 in
set_option maxHeartbeats 800000 in
theorem ref_next (s : Int) (m : Bool) (w : World) : Calls Tryz.prog 64 #[.int .i64 s, .bool m] w fun e w' => e = .returned (.int .i64 (stepOf s m)) ∧ Only [] w w' := by
  by_cases hin : 0 ≤ s ∧ s < 128
  · have hr : stepOf s m = nextOf s m := by unfold stepOf; rw [if_pos hin]
    obtain ⟨h0, h1⟩ := hin
    obtain ⟨k, r, rfl, hk, hr2⟩ := state_parts s h0 h1
    have h1 : Int.tdiv (2 * (k : Int) + r) 2 = k := by rw [Int.tdiv_eq_ediv_of_nonneg (by omega)]; omega
    have h2 : Int.tmod (2 * (k : Int) + r) 2 = r := by rw [Int.tmod_eq_emod_of_nonneg (by omega)]; omega
    have hq : (2 * (k : Int) + r) / 2 = k := by omega
    have hq2 : (2 * (k : Int) + r) % 2 = r := by omega
    have hd := downL_range k hk
    obtain ⟨d, hd2⟩ : ∃ d, d = downL.getD k 0 := ⟨_, rfl⟩
    have hn : nextOf (2 * (k : Int) + r) m = if m then (if (k : Int) < 62 then 2 * ((k : Int) + 1) + r else 2 * (k : Int) + r) else if (k : Int) = 0 then 1 - (r : Int) else 2 * d + r := by
      unfold nextOf
      rw [hq, hq2, Int.toNat_natCast, ← hd2]
      cases m
      · by_cases hz : (k : Int) = 0 <;> simp [hz, downL]
      · simp
    rw [hn] at hr
    have Hr := Lib.hid hr
    have c1 : (w.alloc (.cells (ints downL) 3)).cell? ⟨w.heap.size, k, none⟩ = some (.int .i64 d) := by
      rw [cells_of (heap_alloc_at _ _), hd2]; exact ints_at _ _ (by rw [downL_len]; omega)
    rw [← hd2] at hd
    obtain ⟨hd3, hd4⟩ := hd
    have Ho := Lib.hid ((Only.refl [] w).alloc (.cells (ints downL) 3))
    have hd0 : k = 0 → d = 0 := by intro h; rw [hd2, h]; rfl
    have Hd0 := Lib.hid hd0
    clear hr hn hd2 hd0 hq hq2
    have hl := ref_lesser w
    generalize w.alloc (.cells (ints downL) 3) = w1 at *
    have Hl := Lib.hid hl
    clear hl
    cases m
    · by_cases hz : k = 0
      · subst hz
        have hd5 := Hd0.out rfl
        subst hd5
        rcases (show r = 0 ∨ r = 1 by omega) with rfl | rfl
        all_goals
          go_enter Tryz.func64, Tryz.ntmps64
          go_wp2_with fail
          refine Hl.out.mono ?_
          rintro e w2 ⟨rfl, rfl⟩
          go_wp2
          go_ret
          refine ⟨ret_int ?_, Ho.out⟩
          rw [Hr.out]; simp
      · go_enter Tryz.func64, Tryz.ntmps64
        go_wp2_with fail
        refine Hl.out.mono ?_
        rintro e w2 ⟨rfl, rfl⟩
        go_wp2
        go_ret
        refine ⟨ret_int ?_, Ho.out⟩
        rw [Hr.out]; simp [hz]
    · by_cases hz : k < 62
      · go_enter Tryz.func64, Tryz.ntmps64
        go_wp2
        go_ret
        refine ⟨ret_int ?_, Only.refl _ _⟩
        rw [Hr.out]; simp; omega
      · go_enter Tryz.func64, Tryz.ntmps64
        go_wp2
        go_ret
        refine ⟨ret_int ?_, Only.refl _ _⟩
        rw [Hr.out]; simp; omega
  · have hr : stepOf s m = 0 := by unfold stepOf; rw [if_neg hin]
    rw [hr]
    go_enter Tryz.func64, Tryz.ntmps64
    go_wp2 <;> go_ret <;> exact ⟨rfl, Only.refl _ _⟩
end Go.Proofs.YtgmnkihldlajcaaGreatDoor
