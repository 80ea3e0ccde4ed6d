/-
  The walk over bins.Init.
-/
import Derived.Test.YtgmnkihldlajcaaGreatDoorBinsA
import Derived.Test.YtgmnkihldlajcaaGreatDoorPlain
namespace Go.Proofs.YtgmnkihldlajcaaGreatDoor
open Go.RowKit

set_option maxRecDepth 100000 in
set_option maxHeartbeats 1600000 in
theorem bins_init (qp : Int) (w : World) (h0 : -9223372036854775808 ≤ qp) (h1 : qp ≤ 9223372036854775807) :
    Calls Tryz.prog 5 #[.int .i64 qp] w fun e w' => ∃ g, e = .returned (.slice (some ⟨g, 0, none⟩) 256 256) ∧ w'.heap[g]? = some (.cells (ints (initL qp)) 3 (0, 0)) ∧ w.heap.size ≤ g ∧ Only [] w w' := by
  obtain ⟨q0, q1⟩ := clampQp_range qp
  have hq : (qp < 0 ∧ clampQp qp = 0) ∨ (51 < qp ∧ clampQp qp = 51) ∨ (0 ≤ qp ∧ qp ≤ 51 ∧ clampQp qp = qp) := by
    unfold clampQp; split
    · omega
    · split <;> omega
  obtain ⟨f, hf⟩ : ∃ f, f = initAt (clampQp qp) := ⟨_, rfl⟩
  have hl : initL qp = (List.range 256).map f := by rw [hf]; rfl
  rw [hl]
  clear hl
  generalize clampQp qp = q at *
  have hm : ∀ k : Nat, (-1020 : Int) ≤ ((7 * (k : Int) + 5) % 41 - 20) * q ∧ ((7 * (k : Int) + 5) % 41 - 20) * q ≤ 1020 := by
    intro k
    have h1 : (-20 : Int) ≤ (7 * (k : Int) + 5) % 41 - 20 := by omega
    have h2 : (7 * (k : Int) + 5) % 41 - 20 ≤ (20 : Int) := by omega
    have h3 := Int.mul_le_mul_of_nonneg_right h1 q0
    have h4 := Int.mul_le_mul_of_nonneg_right h2 q0
    omega
  have Hm := Lib.hid hm
  clear hm
  rcases hq with ⟨hq, rfl⟩ | ⟨hq, rfl⟩ | ⟨hq, hq2, rfl⟩
  all_goals
    have Hf := Lib.hid hf
    clear hf
    go_enter Tryz.func5, Tryz.ntmps5
    go_wp2_with (at_make; refine wpList_make1 rfl _ _ rfl elt64 rfl 256 rfl rfl rfl rfl (by decide) (by decide) ?_)
    intro w1 hb ho hs
    rw [ints_replicate, ← fillTo_zero f 256] at hb
    have Hb := Lib.hid hb
    have Ho := Lib.hid ho
    clear hb ho hs
    go_wp2
    go_loopw [14] (fun i wr => ∃ k : Nat, k ≤ 256 ∧ i = .int .i64 k ∧ wr.heap[w.heap.size]? = some (.cells (ints (fillTo f 256 k)) 3 (0, 0)) ∧ Only [] w wr) (fun i _ => 256 - (intOf i).toNat)
    case atStart => exact ⟨0, by omega, rfl, Hb.out, Ho.out⟩
    case round =>
      obtain ⟨k, hk, rfl, hblk, hon⟩ := hrel
      by_cases hlt : k < 256
      · have c1 : ∃ v0, wr.cell? ⟨w.heap.size, k, none⟩ = some v0 := ⟨_, by rw [cells_of hblk]; exact ints_at _ _ (by rw [fillTo_length]; exact hlt)⟩
        obtain ⟨v0, c1⟩ := c1
        have z := free_of hblk k
        have Hblk := Lib.hid hblk
        have Hon := Lib.hid hon
        clear hblk hon
        obtain ⟨hm0, hm1⟩ := Hm.out k
        go_wp2
        all_goals
          go_roundw
          case rel =>
            refine ⟨k + 1, by omega, by go_num, ?_, Hon.out.setCell (.inr (Nat.le_refl _)) _⟩
            rw [heap_set_same _ Hblk.out, ints_setIf, fillTo_set]
            rw [Hf.out]
            unfold initAt initY initX
            omega
          case measure => simp [intOf] <;> omega
      · obtain rfl : k = 256 := by omega
        rw [fillTo_full] at hblk
        have Hblk := Lib.hid hblk
        have Hon := Lib.hid hon
        clear hblk hon
        go_wp2
        go_ret
        exact ⟨_, rfl, Hblk.out, Nat.le_refl _, Hon.out⟩

theorem initL_length (q : Int) : (initL q).length = 256 := by simp [initL]
theorem init_slice {w : World} {g : Nat} {qp : Int} (h : w.heap[g]? = some (.cells (ints (initL qp)) 3 (0, 0))) : IntSlice w (.slice (some ⟨g, 0, none⟩) 256 256) (initL qp) := by
  have := IntSlice.of_block (cap := 256) h
  rw [initL_length] at this
  exact this
end Go.Proofs.YtgmnkihldlajcaaGreatDoor
