/-
  interp's may, and Luma's runs at every place.
-/
import Derived.Test.YtcmehedjdfopdaaGreatExIe
namespace Go.Proofs.YtcmehedjdfopdaaGreat
open Go Go.RowKit
set_option maxRecDepth 100000 in
set_option maxHeartbeats 1600000 in
theorem ip_sideI (n most : Int) (h0 : 1 ≤ n) (h1 : n ≤ most) (w : World) : Calls Tryz.prog 182 #[.int .i64 n, .int .i64 most] w fun e w' => e = .returned (.bool true) ∧ w = w' := by
  go_enter Tryz.func182, Tryz.ntmps182
  go_wp2
  go_ret
  exact ⟨rfl, rfl⟩

theorem max2_intI {P : Program} (a b : Int) (w : World) : (Builtin.max2 (.int .i64 a) (.int .i64 b)).run P w = .ok (.int .i64 (max a b)) w := by
  unfold Builtin.max2
  by_cases h : a < b
  · simp [h, show max a b = b by omega]
  · simp [h, show max a b = a by omega]
theorem max4_intI {P : Program} (t : Array TypeId) (u : TypeId) (a b c d : Int) (w : World) : (Builtin.max_ t u #[.int .i64 a, .int .i64 b, .int .i64 c, .int .i64 d]).run P w = .ok (.int .i64 (max (max (max a b) c) d)) w := by
  unfold Builtin.max_
  simp [List.foldlM, Sem.run_bind, max2_intI]

set_option maxRecDepth 100000 in
set_option maxHeartbeats 1600000 in
theorem ip_mayI (a : Option Addr) (n cap W H bw bh x y : Nat) (hn : n = W * H) (w0 : 1 ≤ W) (w1 : W ≤ 128) (h0 : 1 ≤ H) (h1 : H ≤ 128) (b0 : 1 ≤ bw) (b1 : bw ≤ 16) (c0 : 1 ≤ bh) (c1 : bh ≤ 16) (hx : x ≤ 4096) (hy : y ≤ 4096) (w : World) :
    Calls Tryz.prog 163 #[.slice a n cap, .int .i64 W, .int .i64 H, .int .i64 x, .int .i64 y, .int .i64 bw, .int .i64 bh] w fun e w' => e = .returned (.int .i64 0) ∧ w = w' := by
  have hnb : n ≤ 128 * 128 := by rw [hn]; exact Nat.mul_le_mul w1 h1
  have q1 : IntKind.i64.wrap ((W : Int) * (H : Int)) = (n : Int) := by rw [← Int.natCast_mul, ← hn]; exact i64nI _ (by omega)
  have q2 : IntKind.i64.wrap (-(x : Int)) = -(x : Int) := i64wI _ (by omega) (by omega)
  have q3 : IntKind.i64.wrap (-(y : Int)) = -(y : Int) := i64wI _ (by omega) (by omega)
  have q4 := fun (t : Array TypeId) (u : TypeId) (w : World) => max4_intI (P := Tryz.prog) t u (x : Int) (-(x : Int)) (y : Int) (-(y : Int)) w
  obtain ⟨m, hm⟩ : ∃ m : Int, m = max (max (max (x : Int) (-(x : Int))) (y : Int)) (-(y : Int)) := ⟨_, rfl⟩
  rw [← hm] at q4
  have hm1 : m ≤ 4096 := by omega
  clear hn hm
  go_enter Tryz.func163, Tryz.ntmps163
  go_wp2_with (first | (go_at_call 182; refine (ip_sideI _ _ (by omega) (by omega) _).mono ?_; rintro e w' ⟨rfl, rfl⟩))
  all_goals
    go_ret
    exact ⟨rfl, rfl⟩

theorem ask_law {W H bw : Nat} (w0 : 1 ≤ W) (w1 : W ≤ 128) (h0 : 1 ≤ H) (h1 : H ≤ 128) (b0 : 1 ≤ bw) (b1 : bw ≤ 16) : Exec.AskLaw Tryz.prog 163 W H bw :=
  fun w a cap x y hx hy => ip_mayI a (W * H) cap W H bw bw x y rfl w0 w1 h0 h1 b0 b1 b0 b1 hx hy w
set_option maxRecDepth 1000000
theorem luma_all : ∀ dx, dx < 4 → ∀ dy, dy < 4 → lumaR dx dy = true := by
  intro dx hx dy hy
  obtain rfl | rfl | rfl | rfl : dx = 0 ∨ dx = 1 ∨ dx = 2 ∨ dx = 3 := by omega
  all_goals obtain rfl | rfl | rfl | rfl : dy = 0 ∨ dy = 1 ∨ dy = 2 ∨ dy = 3 := by omega
  all_goals kernel_rfl
end Go.Proofs.YtcmehedjdfopdaaGreat
