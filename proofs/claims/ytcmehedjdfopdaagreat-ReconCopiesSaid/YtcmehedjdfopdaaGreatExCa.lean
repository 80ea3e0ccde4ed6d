/-
  The runner over interp's Luma and Chroma between no samples, and over weight's Mean of two equal rows.
-/
import Derived.Test.YtcmehedjdfopdaaGreatExIa
import Derived.Test.YtcmehedjdfopdaaGreatExMx
namespace Go.Proofs.YtcmehedjdfopdaaGreat
open Go Go.RowKit
open Go.Exec (Row RowOk CvRow CvOk ShRow ShOk)
set_option maxRecDepth 100000 in
set_option maxHeartbeats 1600000 in
theorem at_walkN {w : World} {p g cap W H : Nat} {v : Int} (x y : Int) (s0 : w.cell? ⟨p, 0, none⟩ = some (.slice (some ⟨g, 0, none⟩) (W * H) cap)) (s1 : w.cell? ⟨p, 1, none⟩ = some (.int .i64 W)) (s2 : w.cell? ⟨p, 2, none⟩ = some (.int .i64 H))
    (hsv : w.cell? ⟨g, nearI y H * W + nearI x W, none⟩ = some (.int .u8 v)) (rv : 0 ≤ v ∧ v ≤ 255) (hw0 : 1 ≤ W) (hw1 : W ≤ 128) (hh0 : 1 ≤ H) (hh1 : H ≤ 128) :
    Calls Tryz.prog 166 #[.pointer (some ⟨p, 0, none⟩), .int .i64 x, .int .i64 y] w fun e w' => e = .returned (.int .i64 v) ∧ Only [] w w' := by
  obtain ⟨a, ha⟩ : ∃ a : Nat, a = nearI x W := ⟨_, rfl⟩
  obtain ⟨b, hb⟩ : ∃ b : Nat, b = nearI y H := ⟨_, rfl⟩
  obtain ⟨c, hc⟩ : ∃ c : Nat, c = b * W := ⟨_, rfl⟩
  obtain ⟨d, hd⟩ : ∃ d : Nat, d = c + a := ⟨_, rfl⟩
  obtain ⟨n, hn⟩ : ∃ n : Nat, n = W * H := ⟨_, rfl⟩
  have la : a < W := by rw [ha]; exact nearI_lt hw0
  have lb : b < H := by rw [hb]; exact nearI_lt hh0
  have ea : min (max x 0) ((W : Int) - 1) = (a : Int) := by rw [ha]; exact (nearI_eq hw0).symm
  have eb : min (max y 0) ((H : Int) - 1) = (b : Int) := by rw [hb]; exact (nearI_eq hh0).symm
  have m1 : (b + 1) * W ≤ H * W := Nat.mul_le_mul_right _ (by omega)
  have m2 : W * H ≤ 128 * 128 := Nat.mul_le_mul hw1 hh1
  rw [Nat.add_mul, Nat.one_mul, ← hc, Nat.mul_comm H W, ← hn] at m1
  rw [← hn] at m2
  have ld : d < n := by omega
  have sv : w.cell? ⟨g, d, none⟩ = some (.int .u8 v) := by rw [hd, hc, hb, ha]; exact hsv
  rw [← hn] at s0
  obtain ⟨W1, hW1⟩ : ∃ W1 : Nat, W1 = W - 1 := ⟨_, rfl⟩
  obtain ⟨H1, hH1⟩ : ∃ H1 : Nat, H1 = H - 1 := ⟨_, rfl⟩
  have q1 : IntKind.i64.wrap ((W : Int) - 1) = (W1 : Int) := by rw [show (W : Int) - 1 = (W1 : Int) by omega]; exact i64nI _ (by omega)
  have q2 : IntKind.i64.wrap ((H : Int) - 1) = (H1 : Int) := by rw [show (H : Int) - 1 = (H1 : Int) by omega]; exact i64nI _ (by omega)
  have q3 : IntKind.i64.wrap ((b : Int) * (W : Int)) = (c : Int) := by rw [← Int.natCast_mul, ← hc]; exact i64nI _ (by omega)
  have q4 : IntKind.i64.wrap ((c : Int) + (a : Int)) = (d : Int) := by rw [← Int.natCast_add, ← hd]; exact i64nI _ (by omega)
  have q5 : IntKind.i64.wrap v = v := i64wI _ (by omega) (by omega)
  have q6 : IntKind.i64.wrap (c : Int) = (c : Int) := i64nI _ (by omega)
  have q7 : IntKind.i64.wrap (a : Int) = (a : Int) := i64nI _ (by omega)
  have hx3 : (x < 0 ∧ a = 0) ∨ (x = (a : Int) ∧ a ≤ W1) ∨ ((W1 : Int) < x ∧ a = W1) := by omega
  have hy3 : (y < 0 ∧ b = 0) ∨ (y = (b : Int) ∧ b ≤ H1) ∨ ((H1 : Int) < y ∧ b = H1) := by omega
  clear hsv ha hb hn m1 m2 ea eb hW1 hH1
  rcases hy3 with ⟨hy, hb0⟩ | hy3
  · have hc0 : c = 0 := by rw [hc, hb0, Nat.zero_mul]
    have hda : d = a := by omega
    clear hc hd q3 q4 q6 hb0
    subst hda
    clear hc0
    rcases hx3 with ⟨hx, rfl⟩ | ⟨rfl, hx⟩ | ⟨hx, rfl⟩
    all_goals
      go_enter Tryz.func166, Tryz.ntmps166
      go_wp2_with fail
      go_quiet (fail)
      go_wp2_with fail
      go_quiet (fail)
      go_wp2
      go_ret
      exact ⟨rfl, by repeat (first | exact Only.refl [] w | apply Only.drewN | apply Only.drew)⟩
  · rcases hx3 with ⟨hx, ha0⟩ | hx3
    · have hdc : d = c := by omega
      clear hc hd q4 q7 ha0
      subst hdc
      rcases hy3 with ⟨rfl, hy⟩ | ⟨hy, rfl⟩
      all_goals
        go_enter Tryz.func166, Tryz.ntmps166
        go_wp2_with fail
        go_quiet (fail)
        go_wp2_with fail
        go_quiet (fail)
        go_wp2
        go_ret
        exact ⟨rfl, by repeat (first | exact Only.refl [] w | apply Only.drewN | apply Only.drew)⟩
    · clear hc hd q6 q7
      rcases hx3 with ⟨rfl, hx⟩ | ⟨hx, rfl⟩
      all_goals
        rcases hy3 with ⟨rfl, hy⟩ | ⟨hy, rfl⟩
        all_goals
          go_enter Tryz.func166, Tryz.ntmps166
          go_wp2_with fail
          go_quiet (fail)
          go_wp2_with fail
          go_quiet (fail)
          go_wp2
          go_ret
          exact ⟨rfl, by repeat (first | exact Only.refl [] w | apply Only.drewN | apply Only.drew)⟩
theorem at_lawN {W H : Nat} (hw0 : 1 ≤ W) (hw1 : W ≤ 128) (hh0 : 1 ≤ H) (hh1 : H ≤ 128) : Exec.AtLaw Tryz.prog 166 W H := by
  intro w p b cap x y v hx hy s0 s1 s2 sv v0 v1
  refine (at_walkN (x := (x : Int)) (y := (y : Int)) s0 s1 s2 ?_ ⟨v0, v1⟩ hw0 hw1 hh0 hh1).mono ?_
  · rw [show nearI (y : Int) H = min y (H - 1) by unfold nearI; omega, show nearI (x : Int) W = min x (W - 1) by unfold nearI; omega]
    exact sv
  · rintro r w' ⟨rfl, ho⟩
    exact ⟨rfl, ho.os, ho.tape, ho.output, ho.size, fun k hk => ho.block k hk (by simp)⟩
/-- Luma: the samples alone. -/
def rhoK (f : Nat → Int) (j : Nat) : Int := if 4000 ≤ j then 64 * f (j - 4000) + 32 else if 3000 ≤ j then 64 * f (j - 3000) else if 2000 ≤ j then 8 * f (j - 2000) else f (j - 1000)
noncomputable def specK (W h n : Nat) : Nat → Option Exec.FnC := Exec.specAdd 166 (Exec.atC 255 W h 1000 n) Exec.spec0
noncomputable def hyL : Exec.Hy := Exec.hyF (fun _ _ _ _ => none) (fun _ _ _ => none) (fun _ _ _ _ => none)
noncomputable def lumaK (x y : Nat) : Bool := Exec.copyOk 3 64 (Exec.srcN 32 8 4 x y) (runQ hyL (specK 32 16 512) 125 (Exec.copyArgs 32 16 8 x y) (Exec.varsSt 5 512))
/-- Chroma: eight times a sample, sixty-four times, with the half, shifted. -/
noncomputable def binK : BinOp → IntKind → Exec.Sc → Exec.Sc → Option Exec.Sc := Exec.orF (Exec.litF .mul 8 1000 128 (fun j => vrS (Nat.add j 1000))) (Exec.orF (Exec.litF .mul 8 2000 128 (fun j => vrS (Nat.add j 1000))) (Exec.orF (Exec.litF .mul 0 1000 1128 (fun _ => inS 0))
  (Exec.orF (Exec.rtF .add 0 2000 128 (fun j => vrS j)) (Exec.orF (Exec.rtF .add 0 3000 128 (fun j => vrS j)) (Exec.rtF .add 32 3000 128 (fun j => vrS (Nat.add j 1000)))))))
noncomputable def hyK : Exec.Hy := Exec.hyF binK (fun _ _ _ => none) (Exec.shG 6 4000 128 (fun j => vrS (Nat.sub j 3000)))
noncomputable def chromaK (x y : Nat) : Bool := Exec.copyOk 3 16 (Exec.srcN 16 4 8 x y) (runQ hyK (specK 16 8 128) 126 (Exec.copyArgs 16 8 4 x y) (Exec.varsSt 5 128))
/-- Mean: twice a sample, one more, halved. -/
def rhoM (f : Nat → Int) (j : Nat) : Int := if 3000 ≤ j then 2 * f (j - 3000) + 1 else if 2000 ≤ j then 2 * f (j - 2000) else f (j - 1000)
noncomputable def binM (n : Nat) : BinOp → IntKind → Exec.Sc → Exec.Sc → Option Exec.Sc := Exec.orF (Exec.rtF .geq 0 1000 n (fun _ => boS true)) (Exec.orF (Exec.rtF .leq 255 1000 n (fun _ => boS true)) (Exec.orF (Exec.selfF .add 1000 n (fun j => vrS (Nat.add j 1000))) (Exec.rtF .add 1 2000 n (fun j => vrS (Nat.add j 1000)))))
noncomputable def hyM (n : Nat) : Exec.Hy := Exec.hyF (binM n) (fun _ _ _ => none) (Exec.shG 1 3000 n (fun j => vrS (Nat.sub j 2000)))
noncomputable def meanK (n : Nat) : Bool := Exec.meanOk 3 n (runQ (hyM n) Exec.spec0 168 (Exec.twoArgs n) (Exec.twoSt 3 n))
set_option maxRecDepth 1000000
theorem luma_32 : lumaK 96 32 = true := by kernel_rfl
theorem chroma_32 : chromaK 96 32 = true := by kernel_rfl
theorem mean_16 : meanK 16 = true := by kernel_rfl
theorem mean_64 : meanK 64 = true := by kernel_rfl
end Go.Proofs.YtcmehedjdfopdaaGreat
