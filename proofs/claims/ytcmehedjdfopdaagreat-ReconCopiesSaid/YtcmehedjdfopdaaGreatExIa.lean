/-
  The runner's specs of package interp: plane.at by hand (an even plane), half and the samplers by closed runs.
-/
import Derived.Test.YtcmehedjdfopdaaGreatLib
import Derived.Test.YtcmehedjdfopdaaGreatExG
import Derived.Test.YtcmehedjdfopdaaGreatProg
import Derived.IntWalk
namespace Go.Proofs.YtcmehedjdfopdaaGreat
open Go Go.RowKit

theorem i64wI (n : Int) (h0 : -9223372036854775808 ≤ n) (h1 : n ≤ 9223372036854775807) : IntKind.i64.wrap n = n := IntWalk.i64_in n (by constructor <;> omega)
theorem i64nI (n : Nat) (h1 : n ≤ 1000000000) : IntKind.i64.wrap (n : Int) = n := i64wI _ (by omega) (by omega)
/-- A number that is held between 0 and the last place. -/
def nearI (x : Int) (n : Nat) : Nat := min x.toNat (n - 1)
theorem nearI_lt {x : Int} {n : Nat} (h : 1 ≤ n) : nearI x n < n := by unfold nearI; omega
theorem nearI_eq {x : Int} {n : Nat} (h : 1 ≤ n) : (nearI x n : Int) = min (max x 0) ((n : Int) - 1) := by unfold nearI; omega

set_option maxRecDepth 100000 in
set_option maxHeartbeats 1600000 in
theorem at_walk {w : World} {p g cap W H : Nat} {v : Int} (h : Exec.EvenAt w p g cap W H v) (hw0 : 1 ≤ W) (hw1 : W ≤ 128) (hh0 : 1 ≤ H) (hh1 : H ≤ 128) (x y : Int) :
    Calls Tryz.prog 166 #[.pointer (some ⟨p, 0, none⟩), .int .i64 x, .int .i64 y] w fun e w' => e = .returned (.int .i64 v) ∧ Only [] w w' := by
  obtain ⟨a, ha⟩ : ∃ a : Nat, a = nearI x W := ⟨_, rfl⟩
  obtain ⟨b, hb⟩ : ∃ b : Nat, b = nearI y H := ⟨_, rfl⟩
  obtain ⟨c, hc⟩ : ∃ c : Nat, c = b * W := ⟨_, rfl⟩
  obtain ⟨d, hd⟩ : ∃ d : Nat, d = c + a := ⟨_, rfl⟩
  obtain ⟨n, hn⟩ : ∃ n : Nat, n = W * H := ⟨_, rfl⟩
  have la : a < W := by rw [ha]; exact nearI_lt hw0
  have lb : b < H := by rw [hb]; exact nearI_lt hh0
  have ea : min (max x 0) ((W : Int) - 1) = (a : Int) := by rw [ha]; exact (nearI_eq hw0).symm
  have eb : min (max y 0) ((H : Int) - 1) = (b : Int) := by rw [hb]; exact (nearI_eq hh0).symm
  have m1 : (b + 1) * W ≤ H * W := Nat.mul_le_mul_right _ (by omega)
  have m2 : W * H ≤ 128 * 128 := Nat.mul_le_mul hw1 hh1
  rw [Nat.add_mul, Nat.one_mul, ← hc, Nat.mul_comm H W, ← hn] at m1
  rw [← hn] at m2
  have ld : d < n := by omega
  have s0 : w.cell? ⟨p, 0, none⟩ = some (.slice (some ⟨g, 0, none⟩) n cap) := by rw [hn]; exact h.s0
  have s1 : w.cell? ⟨p, 1, none⟩ = some (.int .i64 W) := h.s1
  have s2 : w.cell? ⟨p, 2, none⟩ = some (.int .i64 H) := h.s2
  have sv : w.cell? ⟨g, d, none⟩ = some (.int .u8 v) := h.sm d (by rw [← hn]; exact ld)
  have rv : 0 ≤ v ∧ v ≤ 255 := ⟨h.v0, h.v1⟩
  obtain ⟨W1, hW1⟩ : ∃ W1 : Nat, W1 = W - 1 := ⟨_, rfl⟩
  obtain ⟨H1, hH1⟩ : ∃ H1 : Nat, H1 = H - 1 := ⟨_, rfl⟩
  have q1 : IntKind.i64.wrap ((W : Int) - 1) = (W1 : Int) := by rw [show (W : Int) - 1 = (W1 : Int) by omega]; exact i64nI _ (by omega)
  have q2 : IntKind.i64.wrap ((H : Int) - 1) = (H1 : Int) := by rw [show (H : Int) - 1 = (H1 : Int) by omega]; exact i64nI _ (by omega)
  have q3 : IntKind.i64.wrap ((b : Int) * (W : Int)) = (c : Int) := by rw [← Int.natCast_mul, ← hc]; exact i64nI _ (by omega)
  have q4 : IntKind.i64.wrap ((c : Int) + (a : Int)) = (d : Int) := by rw [← Int.natCast_add, ← hd]; exact i64nI _ (by omega)
  have q5 : IntKind.i64.wrap v = v := i64wI _ (by omega) (by omega)
  have q6 : IntKind.i64.wrap (c : Int) = (c : Int) := i64nI _ (by omega)
  have q7 : IntKind.i64.wrap (a : Int) = (a : Int) := i64nI _ (by omega)
  have hx3 : (x < 0 ∧ a = 0) ∨ (x = (a : Int) ∧ a ≤ W1) ∨ ((W1 : Int) < x ∧ a = W1) := by omega
  have hy3 : (y < 0 ∧ b = 0) ∨ (y = (b : Int) ∧ b ≤ H1) ∨ ((H1 : Int) < y ∧ b = H1) := by omega
  clear h ha hb hn m1 m2 ea eb hW1 hH1
  rcases hy3 with ⟨hy, hb0⟩ | hy3
  · have hc0 : c = 0 := by rw [hc, hb0, Nat.zero_mul]
    have hda : d = a := by omega
    clear hc hd q3 q4 q6 hb0
    subst hda
    clear hc0
    rcases hx3 with ⟨hx, rfl⟩ | ⟨rfl, hx⟩ | ⟨hx, rfl⟩
    all_goals
      go_enter Tryz.func166, Tryz.ntmps166
      go_wp2_with fail
      go_quiet (fail)
      go_wp2_with fail
      go_quiet (fail)
      go_wp2
      go_ret
      exact ⟨rfl, by repeat (first | exact Only.refl [] w | apply Only.drewN | apply Only.drew)⟩
  · rcases hx3 with ⟨hx, ha0⟩ | hx3
    · have hdc : d = c := by omega
      clear hc hd q4 q7 ha0
      subst hdc
      rcases hy3 with ⟨rfl, hy⟩ | ⟨hy, rfl⟩
      all_goals
        go_enter Tryz.func166, Tryz.ntmps166
        go_wp2_with fail
        go_quiet (fail)
        go_wp2_with fail
        go_quiet (fail)
        go_wp2
        go_ret
        exact ⟨rfl, by repeat (first | exact Only.refl [] w | apply Only.drewN | apply Only.drew)⟩
    · clear hc hd q6 q7
      rcases hx3 with ⟨rfl, hx⟩ | ⟨hx, rfl⟩
      all_goals
        rcases hy3 with ⟨rfl, hy⟩ | ⟨hy, rfl⟩
        all_goals
          go_enter Tryz.func166, Tryz.ntmps166
          go_wp2_with fail
          go_quiet (fail)
          go_wp2_with fail
          go_quiet (fail)
          go_wp2
          go_ret
          exact ⟨rfl, by repeat (first | exact Only.refl [] w | apply Only.drewN | apply Only.drew)⟩
theorem at_law {W H : Nat} (hw0 : 1 ≤ W) (hw1 : W ≤ 128) (hh0 : 1 ≤ H) (hh1 : H ≤ 128) : Exec.PlLaw Tryz.prog 166 W H 2 := by
  intro w p b cap v xs hk hE
  match xs, hk with
  | [x, y], _ =>
    refine (at_walk hE hw0 hw1 hh0 hh1 x y).mono ?_
    rintro r w' ⟨rfl, ho⟩
    exact ⟨rfl, ho.os, ho.tape, ho.output, ho.size, fun k hk => ho.block k hk (by simp)⟩
end Go.Proofs.YtcmehedjdfopdaaGreat
