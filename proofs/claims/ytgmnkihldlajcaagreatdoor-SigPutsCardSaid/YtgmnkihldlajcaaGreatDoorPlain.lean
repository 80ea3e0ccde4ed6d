/-
  The walks over zoetropelaw0's plain helpers: Num, SameInts, SpoilInts.
-/
import Derived.Test.YtgmnkihldlajcaaGreatDoorRows
import Derived.Test.YtgmnkihldlajcaaGreatDoorLib
import Derived.Deep.QuietTactic
import Derived.BigQuiet
namespace Go.Proofs.YtgmnkihldlajcaaGreatDoor
open Go.RowKit


/-- A slice value that reads as a list of ints. -/
def IntSlice (w : World) (v : Value) (xs : List Int) : Prop :=
  ∃ ao cap, v = .slice ao xs.length cap ∧ (xs = [] ∨ ∃ g off, ao = some ⟨g, off, none⟩ ∧ ∀ i, i < xs.length → w.cell? ⟨g, off + i, none⟩ = some (.int .i64 (xs.getD i 0)))
theorem IntSlice.of_block {w : World} {g cap : Nat} {e : TypeId} {xs : List Int} (h : w.heap[g]? = some (.cells (ints xs) e (0, 0))) : IntSlice w (.slice (some ⟨g, 0, none⟩) xs.length cap) xs :=
  ⟨_, _, rfl, .inr ⟨g, 0, rfl, fun i hi => by rw [cells_of h, Nat.zero_add]; exact ints_at _ _ hi⟩⟩
theorem IntSlice.only {S : List Nat} {w w' : World} {v : Value} {xs : List Int} (h : IntSlice w v xs) (ho : Only S w w') (hs : ∀ g off c, v = .slice (some ⟨g, off, none⟩) xs.length c → g ∉ S) : IntSlice w' v xs := by
  obtain ⟨ao, cap, rfl, hx⟩ := h
  refine ⟨ao, cap, rfl, ?_⟩
  rcases hx with hx | ⟨g, off, rfl, hc⟩
  · exact .inl hx
  · exact .inr ⟨g, off, rfl, fun i hi => ho.cell (hc i hi) (hs g off cap rfl)⟩

theorem num_any (x : Int) (w : World) :
    Calls Tryz.prog 10 #[.int .i64 x] w fun e w' => e = .returned (.int .i64 x) ∧ w = w' := by
  go_enter Tryz.func10, Tryz.ntmps10
  go_wp2
  go_ret
  exact ⟨rfl, rfl⟩

set_option maxHeartbeats 800000 in
theorem same_ints (v u : Value) (xs ys : List Int) (w : World) (hv : IntSlice w v xs) (hu : IntSlice w u ys) (hl : xs.length ≤ 9000000000000000000) (_hl2 : ys.length ≤ 9000000000000000000) :
    Calls Tryz.prog 15 #[v, u] w fun e w' => e = .returned (.bool (decide (xs = ys))) ∧ Only [] w w' := by
  obtain ⟨ao, ca, rfl, ha⟩ := hv
  obtain ⟨bo, cb, rfl, hb⟩ := hu
  by_cases hlen : xs.length = ys.length
  · have hlt : ((xs.length : Int) != ys.length) = false := by simp [hlen]
    have Hlen := Lib.hid hlen
    have hle : ys.length ≤ xs.length := by omega
    have hle2 : xs.length ≤ ys.length := by omega
    clear hlen
    go_enter Tryz.func15, Tryz.ntmps15
    go_wp2
    go_loopw [5] (fun i wr => ∃ k : Nat, k ≤ xs.length ∧ i = .int .i64 k ∧ Hid (∀ j, j < k → xs.getD j 0 = ys.getD j 0) ∧ Only [] w wr) (fun i _ => xs.length - (intOf i).toNat)
    case atStart => exact ⟨0, Nat.zero_le _, rfl, Lib.hid (fun j hj => by omega), Only.refl _ _⟩
    case round =>
      obtain ⟨k, hk, rfl, heq, hon⟩ := hrel
      by_cases hkl : k < xs.length
      · rcases ha with ha | ⟨ga, oa, rfl, ha⟩
        · simp [ha] at hkl
        rcases hb with hb | ⟨gb, ob, rfl, hb⟩
        · simp [hb] at hle2; simp [hle2] at hkl
        have ca1 := hon.cell (ha k hkl) (by simp)
        have cb1 := hon.cell (hb k (by omega)) (by simp)
        have hkl2 : k < ys.length := by omega
        generalize hxk : xs.getD k 0 = xk at *
        generalize hyk : ys.getD k 0 = yk at *
        have Hx := Lib.hid hxk
        have Hy := Lib.hid hyk
        clear hxk hyk ha hb
        by_cases hne : xk = yk
        · have hb1 : (xk != yk) = false := by simp [hne]
          have Hne := Lib.hid hne
          clear hne
          go_wp2
          go_quiet (fail)
          go_wp2
          go_roundw
          case rel =>
            refine ⟨k + 1, by omega, by go_num, Lib.hid ?_, hon.drewN _⟩
            intro j hj
            rcases Nat.lt_or_ge j k with h | h
            · exact heq.out j h
            · obtain rfl : j = k := by omega
              rw [Hx.out, Hy.out, Hne.out]
          case measure => simp [intOf] <;> omega
        · have hb1 : (xk != yk) = true := by simp [hne]
          have Hne := Lib.hid hne
          clear hne
          go_wp2
          go_quiet (fail)
          go_wp2
          go_ret
          refine ⟨ret_bool ?_, hon.drewN _⟩
          symm
          rw [decide_eq_false_iff_not]
          intro h
          apply Hne.out
          rw [← Hx.out, ← Hy.out, h]
      · obtain rfl : k = xs.length := by omega
        go_wp2
        go_ret
        refine ⟨ret_bool ?_, hon⟩
        symm
        rw [decide_eq_true_iff]
        apply List.ext_getElem?
        intro i
        by_cases hi : i < xs.length
        · have h1 := heq.out i hi
          have h2 := Hlen.out
          have hi2 : i < ys.length := by omega
          simp only [List.getD, List.getElem?_eq_getElem hi, List.getElem?_eq_getElem hi2, Option.getD_some] at h1
          rw [List.getElem?_eq_getElem hi, List.getElem?_eq_getElem hi2, h1]
        · have h2 := Hlen.out
          rw [List.getElem?_eq_none (by omega), List.getElem?_eq_none (by omega)]
  · have hlt : ((xs.length : Int) != ys.length) = true := by simp; omega
    go_enter Tryz.func15, Tryz.ntmps15
    go_wp2
    go_ret
    refine ⟨ret_bool ?_, Only.refl _ _⟩
    symm
    rw [decide_eq_false_iff_not]
    intro h
    exact hlen (by rw [h])
end Go.Proofs.YtgmnkihldlajcaaGreatDoor
