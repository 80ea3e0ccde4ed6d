/-
  ReconOnes: the law.
-/
import Derived.Test.YtcmehedjdfopdaaGreatExOnA
import Derived.Test.YtcmehedjdfopdaaGreatExOnB
import Derived.Test.YtcmehedjdfopdaaGreatExOnC
import Derived.Test.YtcmehedjdfopdaaGreatExOnD
import Derived.Test.YtcmehedjdfopdaaGreatExOnE
import Derived.Test.YtcmehedjdfopdaaGreatExOnF
import Derived.Test.YtcmehedjdfopdaaGreatExOnG
import Derived.Test.YtcmehedjdfopdaaGreatExOnH
import Derived.Below
namespace Go.Proofs.YtcmehedjdfopdaaGreat
open Go Go.RowKit
open Go.Exec (Row RowOk CvRow CvOk ShRow ShOk)
theorem ones_go (a0 a1 a2 a3 : Int) (w : World) (gn hn : Nat) (hg : (gn : Int) = (Exec.bitsOf a3 7 : Nat)) (hh : hn ≤ 64) (hr : oneRun gn hn = true) :
    Calls Tryz.prog 5 #[.int .i64 a0, .int .i64 a1, .int .i64 a2, .int .i64 a3] w fun e w' => e = .returned (.bool true) ∧ Below w.heap.size w w' := by
  obtain ⟨x, hx⟩ : ∃ x : Int, x = (Exec.bitsOf a0 255 : Nat) := ⟨_, rfl⟩
  obtain ⟨s, hs⟩ : ∃ x : Int, x = (Exec.bitsOf a1 127 : Nat) := ⟨_, rfl⟩
  obtain ⟨f, hf⟩ : ∃ x : Int, x = (Exec.bitsOf a2 63 : Nat) := ⟨_, rfl⟩
  obtain ⟨m1, h1⟩ : ∃ x : Int, x = (Exec.bitsOf a0 31 : Nat) := ⟨_, rfl⟩
  obtain ⟨m2, h2⟩ : ∃ x : Int, x = (Exec.bitsOf a1 31 : Nat) := ⟨_, rfl⟩
  have b1 := Exec.bitsOf_le a0 (c := 255) (by decide)
  have b2 := Exec.bitsOf_le a1 (c := 127) (by decide)
  have b3 := Exec.bitsOf_le a2 (c := 63) (by decide)
  have b4 := Exec.bitsOf_le a0 (c := 31) (by decide)
  have b5 := Exec.bitsOf_le a1 (c := 31) (by decide)
  have x0 : 0 ≤ x := by omega
  have x1 : x ≤ 255 := by omega
  have hm : 0 ≤ x * s := Int.mul_nonneg x0 (by omega)
  have hm2 : x * s ≤ 40000 := by
    have := Int.mul_le_mul x1 (show s ≤ 127 by omega) (by omega) (by decide)
    omega
  obtain ⟨d, hd⟩ : ∃ d : Nat, d = 2 ^ min gn 64 := ⟨_, rfl⟩
  have hd1 : 1 ≤ d := by rw [hd]; exact Nat.one_le_two_pow
  have hq : 0 ≤ (x * s + (hn : Int)) / (d : Int) := Int.ediv_nonneg (by omega) (by omega)
  have hq2 : (x * s + (hn : Int)) / (d : Int) ≤ 50000 := by
    have := Int.ediv_le_self (d : Int) (show 0 ≤ x * s + (hn : Int) by omega)
    omega
  have hH : Exec.HyAt Tryz.prog (rhoO a0 a1 a2 a3 x s f m1 m2 hn d) (Exec.hyS (rowsO ++ rowsOg gn hn) cvsO (shsO gn) []) :=
    Exec.hyS_ok (fun e he => (List.mem_append.1 he).elim (rowsO_ok hx hs hf h1 h2 hm hm2 hq hq2 e) (rowsOg_ok hg rfl hh hm hm2 e)) (cvsO_ok x0 x1) (shsO_ok (by rw [hd])) (fun e he => by cases he)
  have hv : Exec.VRL (Exec.Nv.mk0 (fun _ => none) (fun _ => 0) (rhoO a0 a1 a2 a3 x s f m1 m2 hn d)) [Exec.mkVar 0, Exec.mkVar 1, Exec.mkVar 2, Exec.mkVar 3] [.int .i64 a0, .int .i64 a1, .int .i64 a2, .int .i64 a3] :=
    .cons (.mkVar 0) (.cons (.mkVar 1) (.cons (.mkVar 2) (.cons (.mkVar 3) .nil)))
  have hR : Exec.Rep Tryz.prog (Exec.Nv.mk0 (fun _ => none) (fun _ => 0) (rhoO a0 a1 a2 a3 x s f m1 m2 hn d)) startR w :=
    ⟨fun m _ hl => by unfold startR at hl; rw [Exec.st0_dead] at hl; exact absurd hl (Nat.lt_irrefl 0), fun m _ b _ _ hl => by unfold startR at hl; rw [Exec.st0_dead] at hl; exact absurd hl (Nat.lt_irrefl 0), fun _ _ => rfl, fun _ _ h => (by cases h), fun _ _ _ h => (by cases h), (by unfold startR; exact (by decide : 256 ≤ 272)), trivial, fun _ h => h.elim⟩
  refine (Exec.closed_at (runQ_ok hH (specO_ok x0 x1 (by omega) (by omega) (by omega) (by omega))) rfl hv hR (Exec.fnOk_enter (by kernel_rfl) _ w) hr).mono ?_
  rintro e w' ⟨h1, h2⟩
  exact ⟨h1, h2.os, h2.tape, h2.output, h2.size, fun k hk => h2.block k hk (fun m _ _ hl => by unfold startR at hl; rw [Exec.st0_dead] at hl; exact absurd hl (Nat.lt_irrefl 0))⟩
theorem law_ones (a0 a1 a2 a3 : Int) (w : World) :
    Calls Tryz.prog 5 #[.int .i64 a0, .int .i64 a1, .int .i64 a2, .int .i64 a3] w fun e w' => e = .returned (.bool true) ∧ Below w.heap.size w w' := by
  have b1 := Exec.bitsOf_le a3 (c := 7) (by decide)
  obtain ⟨g, hg⟩ : ∃ g : Nat, g = Exec.bitsOf a3 7 := ⟨_, rfl⟩
  rw [← hg] at b1
  obtain rfl | rfl | rfl | rfl | rfl | rfl | rfl | rfl : g = 0 ∨ g = 1 ∨ g = 2 ∨ g = 3 ∨ g = 4 ∨ g = 5 ∨ g = 6 ∨ g = 7 := by omega
  · exact ones_go a0 a1 a2 a3 w 0 0 (by rw [← hg]) (by decide) one_run0
  · exact ones_go a0 a1 a2 a3 w 1 1 (by rw [← hg]) (by decide) one_run1
  · exact ones_go a0 a1 a2 a3 w 2 2 (by rw [← hg]) (by decide) one_run2
  · exact ones_go a0 a1 a2 a3 w 3 4 (by rw [← hg]) (by decide) one_run3
  · exact ones_go a0 a1 a2 a3 w 4 8 (by rw [← hg]) (by decide) one_run4
  · exact ones_go a0 a1 a2 a3 w 5 16 (by rw [← hg]) (by decide) one_run5
  · exact ones_go a0 a1 a2 a3 w 6 32 (by rw [← hg]) (by decide) one_run6
  · exact ones_go a0 a1 a2 a3 w 7 64 (by rw [← hg]) (by decide) one_run7
end Go.Proofs.YtcmehedjdfopdaaGreat
