/-
  The walks over package syntax's small functions: in, within, told, zero, small, kinds, has. The walks over package syntax's kinds, has, mayQp, idle. The walk over package syntax's idle.
-/
import Derived.Test.YtcmehedjdfopdaaGreatJ18
namespace Go.Proofs.YtcmehedjdfopdaaGreat
open Go.RowKit

theorem sy_in (x lo hi : Int) (h0 : lo ≤ x) (h1 : x ≤ hi) (w : World) : Calls Tryz.prog 73 #[.int .i64 x, .int .i64 lo, .int .i64 hi] w fun e w' => e = .returned (.bool true) ∧ w = w' := by
  go_enter Tryz.func73, Tryz.ntmps73
  go_wp2
  go_ret
  exact ⟨rfl, rfl⟩
theorem sy_within (k : Int) (h : k = 0 ∨ k = 1 ∨ k = 2) (w : World) : Calls Tryz.prog 48 #[.int .i64 k] w fun e w' => e = .returned (.bool true) ∧ w = w' := by
  rcases h with rfl | rfl | rfl <;>
  · go_enter Tryz.func48, Tryz.ntmps48
    go_wp2
    go_ret
    exact ⟨rfl, rfl⟩
theorem sy_without (w : World) : Calls Tryz.prog 48 #[.int .i64 3] w fun e w' => e = .returned (.bool false) ∧ w = w' := by
  go_enter Tryz.func48, Tryz.ntmps48
  go_wp2
  go_ret
  exact ⟨rfl, rfl⟩
theorem sy_told16 (mb : Nat) (w : World) (k0 : w.cell? ⟨mb, 0, none⟩ = some (.int .i64 1)) : Calls Tryz.prog 99 #[.pointer (some ⟨mb, 0, none⟩)] w fun e w' => e = .returned (.bool true) ∧ w = w' := by
  go_enter Tryz.func99, Tryz.ntmps99
  go_wp2
  go_ret
  exact ⟨rfl, rfl⟩
theorem sy_told0 (mb : Nat) (kd : Int) (w : World) (k0 : w.cell? ⟨mb, 0, none⟩ = some (.int .i64 kd)) (hk : ((kd : Int) == 1) = false) (k48 : w.cell? ⟨mb, 48, none⟩ = some (.int .i64 0)) : Calls Tryz.prog 99 #[.pointer (some ⟨mb, 0, none⟩)] w fun e w' => e = .returned (.bool false) ∧ w = w' := by
  go_enter Tryz.func99, Tryz.ntmps99
  go_wp2
  go_ret
  exact ⟨rfl, rfl⟩

set_option maxHeartbeats 800000 in
theorem sy_zero (v : Value) (n : Nat) (w : World) (hv : IntSlice w v (List.replicate n 0)) (hl : n ≤ 1000) :
    Calls Tryz.prog 100 #[v] w fun e w' => e = .returned (.bool true) ∧ w = w' := by
  obtain ⟨ao, cap, rfl, ha⟩ := hv
  rw [List.length_replicate] at ha ⊢
  have Ha := Lib.hid ha
  clear ha
  go_enter Tryz.func100, Tryz.ntmps100
  go_wp2
  go_loop [7] (fun q => ∃ k : Nat, k ≤ n ∧ q = .int .i64 k) (fun q => n - (intOf q).toNat)
  case atStart => exact ⟨0, Nat.zero_le _, rfl⟩
  case round =>
    obtain ⟨k, hk, rfl⟩ := hrel
    by_cases hlt : k < n
    · rcases Ha.out with h | ⟨g, off, rfl, hc⟩
      · have := congrArg List.length h; simp at this; omega
      have c1 := hc k hlt
      rw [getD_rep0] at c1
      clear hc
      go_wp2
      go_round
      case rel => exact ⟨k + 1, by omega, by go_num⟩
      case measure => simp [intOf] <;> omega
    · obtain rfl : k = n := by omega
      go_wp2
      go_ret
      exact ⟨rfl, rfl⟩

set_option maxHeartbeats 800000 in
theorem sy_small (v : Value) (xs : List Int) (w : World) (hv : IntSlice w v xs) (hl : xs.length ≤ 1000) (hx : ∀ i, i < xs.length → -32767 ≤ xs.getD i 0 ∧ xs.getD i 0 ≤ 32767) :
    Calls Tryz.prog 101 #[v] w fun e w' => e = .returned (.bool true) ∧ w = w' := by
  obtain ⟨ao, cap, rfl, ha⟩ := hv
  obtain ⟨n, hn⟩ : ∃ n, n = xs.length := ⟨_, rfl⟩
  rw [← hn] at hl hx ⊢
  have Ha := Lib.hid ha
  have Hx := Lib.hid hx
  have Hn := Lib.hid hn
  clear ha hx hn
  go_enter Tryz.func101, Tryz.ntmps101
  go_wp2
  go_loop [7] (fun q => ∃ k : Nat, k ≤ n ∧ q = .int .i64 k) (fun q => n - (intOf q).toNat)
  case atStart => exact ⟨0, Nat.zero_le _, rfl⟩
  case round =>
    obtain ⟨k, hk, rfl⟩ := hrel
    by_cases hlt : k < n
    · rcases Ha.out with h | ⟨g, off, rfl, hc⟩
      · have := Hn.out; rw [h] at this; simp at this; omega
      have c1 := hc k (by rw [← Hn.out]; exact hlt)
      obtain ⟨r0, r1⟩ := Hx.out k hlt
      obtain ⟨x, hx⟩ : ∃ x, x = xs.getD k 0 := ⟨_, rfl⟩
      rw [← hx] at c1 r0 r1
      clear hx hc
      go_wp2_with fail
      refine (sy_in _ _ _ r0 r1 _).mono ?_
      rintro e w' ⟨rfl, rfl⟩
      go_wp2
      go_round
      case rel => exact ⟨k + 1, by omega, by go_num⟩
      case measure => simp [intOf] <;> omega
    · obtain rfl : k = n := by omega
      go_wp2
      go_ret
      exact ⟨rfl, rfl⟩
theorem sy_hasSkip (t : Int) (h : t = 0 ∨ t = 1) (w : World) : Calls Tryz.prog 69 #[.int .i64 t, .int .i64 3] w fun e w' => e = .returned (.bool true) ∧ w = w' := by
  rcases h with rfl | rfl <;>
  · go_enter Tryz.func69, Tryz.ntmps69
    go_wp2
    go_ret
    exact ⟨rfl, rfl⟩
end Go.Proofs.YtcmehedjdfopdaaGreat

namespace Go.Proofs.YtcmehedjdfopdaaGreat
open Go.RowKit

set_option maxHeartbeats 800000 in
theorem sy_kindsI (w : World) : Calls Tryz.prog 98 #[.int .i64 2] w fun e w' => ∃ g : Nat, e = .returned (.slice (some ⟨g, 2, none⟩) 3 3) ∧ w'.heap[g]? = some (.cells #[.int .i64 5, .int .i64 4, .int .i64 0, .int .i64 1, .int .i64 2] 3 (0, 0)) ∧ Only [] w w' := by
  go_enter Tryz.func98, Tryz.ntmps98
  go_wp2
  go_ret
  exact ⟨_, rfl, heap_alloc_at w _, (Only.refl [] w).alloc _⟩
set_option maxHeartbeats 800000 in
theorem sy_hasI (kd : Int) (h : kd = 0 ∨ kd = 1 ∨ kd = 2) (w : World) : Calls Tryz.prog 69 #[.int .i64 2, .int .i64 kd] w fun e w' => e = .returned (.bool true) ∧ Only [] w w' := by
  obtain ⟨k, hk, rfl⟩ : ∃ k : Nat, k ≤ 2 ∧ kd = k := ⟨kd.toNat, by omega, by omega⟩
  have hn3 : (k : Int) ≠ 3 := by omega
  have hk3 : (((k : Nat) : Int) == 3) = false := by simp only [beq_eq_false_iff_ne]; exact hn3
  clear hn3 h
  go_enter Tryz.func69, Tryz.ntmps69
  go_wp2_with fail
  refine (sy_kindsI _).mono ?_
  rintro e w1 ⟨g, rfl, hg, ho⟩
  have G := Lib.hid hg
  have O := Lib.hid ho
  have e0 : w1.cell? ⟨g, 2, none⟩ = some (.int .i64 0) := by rw [cells_of hg]; rfl
  have e1 : w1.cell? ⟨g, 3, none⟩ = some (.int .i64 1) := by rw [cells_of hg]; rfl
  have e2 : w1.cell? ⟨g, 4, none⟩ = some (.int .i64 2) := by rw [cells_of hg]; rfl
  clear hg ho
  go_wp2
  go_loop [18] (fun q => ∃ j : Nat, j ≤ k ∧ q = .int .i64 j) (fun q => 3 - (intOf q).toNat)
  case atStart => exact ⟨0, Nat.zero_le _, rfl⟩
  case round =>
    obtain ⟨j, hj, rfl⟩ := hrel
    have ej : w1.cell? ⟨g, 2 + j, none⟩ = some (.int .i64 j) := by
      obtain rfl | rfl | rfl : j = 0 ∨ j = 1 ∨ j = 2 := by omega
      · exact e0
      · exact e1
      · exact e2
    by_cases hlt : j < k
    · have hn' : (j : Int) ≠ k := by omega
      have hne : (((j : Nat) : Int) == (k : Int)) = false := by simp only [beq_eq_false_iff_ne]; exact hn'
      clear hn'
      go_wp2
      go_round
      case rel => exact ⟨j + 1, by omega, by go_num⟩
      case measure => simp [intOf] <;> omega
    · obtain rfl : j = k := by omega
      go_wp2_with fail
      refine (sy_in _ _ _ (by decide) (by decide) _).mono ?_
      rintro e w' ⟨rfl, rfl⟩
      go_wp2
      go_ret
      exact ⟨rfl, O.out⟩
theorem sy_qp16 (mb : Nat) (qp : Int) (w : World) (k0 : w.cell? ⟨mb, 0, none⟩ = some (.int .i64 1)) (k49 : w.cell? ⟨mb, 49, none⟩ = some (.int .i64 qp)) (q0 : 0 ≤ qp) (q1 : qp ≤ 51) :
    Calls Tryz.prog 71 #[.pointer (some ⟨mb, 0, none⟩)] w fun e w' => e = .returned (.bool true) ∧ w = w' := by
  go_enter Tryz.func71, Tryz.ntmps71
  go_wp2_with fail
  refine (sy_told16 mb _ k0).mono ?_
  rintro e w' ⟨rfl, rfl⟩
  go_wp2_with fail
  refine (sy_in _ _ _ q0 q1 _).mono ?_
  rintro e w' ⟨rfl, rfl⟩
  go_wp2
  go_ret
  exact ⟨rfl, rfl⟩
theorem sy_qp0 (mb : Nat) (kd : Int) (w : World) (k0 : w.cell? ⟨mb, 0, none⟩ = some (.int .i64 kd)) (hk : ((kd : Int) == 1) = false) (k48 : w.cell? ⟨mb, 48, none⟩ = some (.int .i64 0)) (k49 : w.cell? ⟨mb, 49, none⟩ = some (.int .i64 0)) :
    Calls Tryz.prog 71 #[.pointer (some ⟨mb, 0, none⟩)] w fun e w' => e = .returned (.bool true) ∧ w = w' := by
  go_enter Tryz.func71, Tryz.ntmps71
  go_wp2_with fail
  refine (sy_told0 mb kd _ k0 hk k48).mono ?_
  rintro e w' ⟨rfl, rfl⟩
  go_wp2
  go_ret
  exact ⟨rfl, rfl⟩
end Go.Proofs.YtcmehedjdfopdaaGreat

namespace Go.Proofs.YtcmehedjdfopdaaGreat
open Go.RowKit

set_option maxRecDepth 100000 in
set_option maxHeartbeats 1600000 in
theorem sy_idle4 (mb : Nat) (w : World) (k0 : w.cell? ⟨mb, 0, none⟩ = some (.int .i64 0)) (k1 : w.cell? ⟨mb, 1, none⟩ = some (.int .i64 0)) (k18 : w.cell? ⟨mb, 18, none⟩ = some (.int .i64 0)) (k482 : w.cell? ⟨mb, 482, none⟩ = some (.slice none 0 0)) :
    Calls Tryz.prog 70 #[.pointer (some ⟨mb, 0, none⟩)] w fun e w' => e = .returned (.bool true) ∧ w = w' := by
  go_enter Tryz.func70, Tryz.ntmps70
  go_wp2
  go_ret
  exact ⟨rfl, rfl⟩

set_option maxRecDepth 100000 in
set_option maxHeartbeats 1600000 in
theorem sy_idle16 (mb : Nat) (w : World) (k0 : w.cell? ⟨mb, 0, none⟩ = some (.int .i64 1)) (k1 : w.cell? ⟨mb, 1, none⟩ = some (.int .i64 0)) (hm : w.rangeAt mb 2 z16) (k482 : w.cell? ⟨mb, 482, none⟩ = some (.slice none 0 0)) :
    Calls Tryz.prog 70 #[.pointer (some ⟨mb, 0, none⟩)] w fun e w' => e = .returned (.bool true) ∧ w = w' := by
  have m0 : w.cell? ⟨mb, 2, none⟩ = some (.int .i64 0) := hm 0 _ rfl
  have m1 : w.cell? ⟨mb, 3, none⟩ = some (.int .i64 0) := hm 1 _ rfl
  have m2 : w.cell? ⟨mb, 4, none⟩ = some (.int .i64 0) := hm 2 _ rfl
  have m3 : w.cell? ⟨mb, 5, none⟩ = some (.int .i64 0) := hm 3 _ rfl
  have m4 : w.cell? ⟨mb, 6, none⟩ = some (.int .i64 0) := hm 4 _ rfl
  have m5 : w.cell? ⟨mb, 7, none⟩ = some (.int .i64 0) := hm 5 _ rfl
  have m6 : w.cell? ⟨mb, 8, none⟩ = some (.int .i64 0) := hm 6 _ rfl
  have m7 : w.cell? ⟨mb, 9, none⟩ = some (.int .i64 0) := hm 7 _ rfl
  have m8 : w.cell? ⟨mb, 10, none⟩ = some (.int .i64 0) := hm 8 _ rfl
  have m9 : w.cell? ⟨mb, 11, none⟩ = some (.int .i64 0) := hm 9 _ rfl
  have m10 : w.cell? ⟨mb, 12, none⟩ = some (.int .i64 0) := hm 10 _ rfl
  have m11 : w.cell? ⟨mb, 13, none⟩ = some (.int .i64 0) := hm 11 _ rfl
  have m12 : w.cell? ⟨mb, 14, none⟩ = some (.int .i64 0) := hm 12 _ rfl
  have m13 : w.cell? ⟨mb, 15, none⟩ = some (.int .i64 0) := hm 13 _ rfl
  have m14 : w.cell? ⟨mb, 16, none⟩ = some (.int .i64 0) := hm 14 _ rfl
  have m15 : w.cell? ⟨mb, 17, none⟩ = some (.int .i64 0) := hm 15 _ rfl
  have heq : ∀ w, (Op.equalIn 10000 36 (.agg #[.int .i64 0, .int .i64 0, .int .i64 0, .int .i64 0, .int .i64 0, .int .i64 0, .int .i64 0, .int .i64 0, .int .i64 0, .int .i64 0, .int .i64 0, .int .i64 0, .int .i64 0, .int .i64 0, .int .i64 0, .int .i64 0]) (.agg #[.int .i64 0, .int .i64 0, .int .i64 0, .int .i64 0, .int .i64 0, .int .i64 0, .int .i64 0, .int .i64 0, .int .i64 0, .int .i64 0, .int .i64 0, .int .i64 0, .int .i64 0, .int .i64 0, .int .i64 0, .int .i64 0])).run Tryz.prog w = .ok true w := fun _ => by kernel_rfl
  clear hm
  go_enter Tryz.func70, Tryz.ntmps70
  go_wp2
  go_ret
  exact ⟨rfl, rfl⟩
set_option maxRecDepth 100000 in
set_option maxHeartbeats 1600000 in
theorem sy_idleP (mb : Nat) (w : World) (k0 : w.cell? ⟨mb, 0, none⟩ = some (.int .i64 2)) (k1 : w.cell? ⟨mb, 1, none⟩ = some (.int .i64 0)) (hm : w.rangeAt mb 2 z16) (k18 : w.cell? ⟨mb, 18, none⟩ = some (.int .i64 0)) (k19 : w.cell? ⟨mb, 19, none⟩ = some (.int .i64 0)) :
    Calls Tryz.prog 70 #[.pointer (some ⟨mb, 0, none⟩)] w fun e w' => e = .returned (.bool true) ∧ w = w' := by
  have m0 : w.cell? ⟨mb, 2, none⟩ = some (.int .i64 0) := hm 0 _ rfl
  have m1 : w.cell? ⟨mb, 3, none⟩ = some (.int .i64 0) := hm 1 _ rfl
  have m2 : w.cell? ⟨mb, 4, none⟩ = some (.int .i64 0) := hm 2 _ rfl
  have m3 : w.cell? ⟨mb, 5, none⟩ = some (.int .i64 0) := hm 3 _ rfl
  have m4 : w.cell? ⟨mb, 6, none⟩ = some (.int .i64 0) := hm 4 _ rfl
  have m5 : w.cell? ⟨mb, 7, none⟩ = some (.int .i64 0) := hm 5 _ rfl
  have m6 : w.cell? ⟨mb, 8, none⟩ = some (.int .i64 0) := hm 6 _ rfl
  have m7 : w.cell? ⟨mb, 9, none⟩ = some (.int .i64 0) := hm 7 _ rfl
  have m8 : w.cell? ⟨mb, 10, none⟩ = some (.int .i64 0) := hm 8 _ rfl
  have m9 : w.cell? ⟨mb, 11, none⟩ = some (.int .i64 0) := hm 9 _ rfl
  have m10 : w.cell? ⟨mb, 12, none⟩ = some (.int .i64 0) := hm 10 _ rfl
  have m11 : w.cell? ⟨mb, 13, none⟩ = some (.int .i64 0) := hm 11 _ rfl
  have m12 : w.cell? ⟨mb, 14, none⟩ = some (.int .i64 0) := hm 12 _ rfl
  have m13 : w.cell? ⟨mb, 15, none⟩ = some (.int .i64 0) := hm 13 _ rfl
  have m14 : w.cell? ⟨mb, 16, none⟩ = some (.int .i64 0) := hm 14 _ rfl
  have m15 : w.cell? ⟨mb, 17, none⟩ = some (.int .i64 0) := hm 15 _ rfl
  have heq : ∀ w, (Op.equalIn 10000 36 (.agg #[.int .i64 0, .int .i64 0, .int .i64 0, .int .i64 0, .int .i64 0, .int .i64 0, .int .i64 0, .int .i64 0, .int .i64 0, .int .i64 0, .int .i64 0, .int .i64 0, .int .i64 0, .int .i64 0, .int .i64 0, .int .i64 0]) (.agg #[.int .i64 0, .int .i64 0, .int .i64 0, .int .i64 0, .int .i64 0, .int .i64 0, .int .i64 0, .int .i64 0, .int .i64 0, .int .i64 0, .int .i64 0, .int .i64 0, .int .i64 0, .int .i64 0, .int .i64 0, .int .i64 0])).run Tryz.prog w = .ok true w := fun _ => by kernel_rfl
  clear hm
  go_enter Tryz.func70, Tryz.ntmps70
  go_wp2
  go_ret
  exact ⟨rfl, rfl⟩
set_option maxRecDepth 100000 in
set_option maxHeartbeats 1600000 in
theorem sy_idleS (mb : Nat) (w : World) (k0 : w.cell? ⟨mb, 0, none⟩ = some (.int .i64 3)) (k1 : w.cell? ⟨mb, 1, none⟩ = some (.int .i64 0)) (hm : w.rangeAt mb 2 z16) (k18 : w.cell? ⟨mb, 18, none⟩ = some (.int .i64 0)) (k19 : w.cell? ⟨mb, 19, none⟩ = some (.int .i64 0)) (k482 : w.cell? ⟨mb, 482, none⟩ = some (.slice none 0 0)) :
    Calls Tryz.prog 70 #[.pointer (some ⟨mb, 0, none⟩)] w fun e w' => e = .returned (.bool true) ∧ w = w' := by
  have m0 : w.cell? ⟨mb, 2, none⟩ = some (.int .i64 0) := hm 0 _ rfl
  have m1 : w.cell? ⟨mb, 3, none⟩ = some (.int .i64 0) := hm 1 _ rfl
  have m2 : w.cell? ⟨mb, 4, none⟩ = some (.int .i64 0) := hm 2 _ rfl
  have m3 : w.cell? ⟨mb, 5, none⟩ = some (.int .i64 0) := hm 3 _ rfl
  have m4 : w.cell? ⟨mb, 6, none⟩ = some (.int .i64 0) := hm 4 _ rfl
  have m5 : w.cell? ⟨mb, 7, none⟩ = some (.int .i64 0) := hm 5 _ rfl
  have m6 : w.cell? ⟨mb, 8, none⟩ = some (.int .i64 0) := hm 6 _ rfl
  have m7 : w.cell? ⟨mb, 9, none⟩ = some (.int .i64 0) := hm 7 _ rfl
  have m8 : w.cell? ⟨mb, 10, none⟩ = some (.int .i64 0) := hm 8 _ rfl
  have m9 : w.cell? ⟨mb, 11, none⟩ = some (.int .i64 0) := hm 9 _ rfl
  have m10 : w.cell? ⟨mb, 12, none⟩ = some (.int .i64 0) := hm 10 _ rfl
  have m11 : w.cell? ⟨mb, 13, none⟩ = some (.int .i64 0) := hm 11 _ rfl
  have m12 : w.cell? ⟨mb, 14, none⟩ = some (.int .i64 0) := hm 12 _ rfl
  have m13 : w.cell? ⟨mb, 15, none⟩ = some (.int .i64 0) := hm 13 _ rfl
  have m14 : w.cell? ⟨mb, 16, none⟩ = some (.int .i64 0) := hm 14 _ rfl
  have m15 : w.cell? ⟨mb, 17, none⟩ = some (.int .i64 0) := hm 15 _ rfl
  have heq : ∀ w, (Op.equalIn 10000 36 (.agg #[.int .i64 0, .int .i64 0, .int .i64 0, .int .i64 0, .int .i64 0, .int .i64 0, .int .i64 0, .int .i64 0, .int .i64 0, .int .i64 0, .int .i64 0, .int .i64 0, .int .i64 0, .int .i64 0, .int .i64 0, .int .i64 0]) (.agg #[.int .i64 0, .int .i64 0, .int .i64 0, .int .i64 0, .int .i64 0, .int .i64 0, .int .i64 0, .int .i64 0, .int .i64 0, .int .i64 0, .int .i64 0, .int .i64 0, .int .i64 0, .int .i64 0, .int .i64 0, .int .i64 0])).run Tryz.prog w = .ok true w := fun _ => by kernel_rfl
  clear hm
  go_enter Tryz.func70, Tryz.ntmps70
  go_wp2
  go_ret
  exact ⟨rfl, rfl⟩
end Go.Proofs.YtcmehedjdfopdaaGreat
