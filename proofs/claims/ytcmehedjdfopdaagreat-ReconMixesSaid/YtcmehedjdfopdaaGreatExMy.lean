/-
  ReconMixes: the law: the world's facts, the ways, the weights told or not.
-/
import Derived.Test.YtcmehedjdfopdaaGreatExMxA
import Derived.Test.YtcmehedjdfopdaaGreatExMxB
import Derived.Test.YtcmehedjdfopdaaGreatExMxC
import Derived.Test.YtcmehedjdfopdaaGreatExMxD
import Derived.Test.YtcmehedjdfopdaaGreatExMxE
import Derived.Test.YtcmehedjdfopdaaGreatExMxF
import Derived.Below
import Derived.Laws.Rows
namespace Go.Proofs.YtcmehedjdfopdaaGreat
open Go.RowKit
open Go.Exec (Row RowOk CvRow CvOk ShRow ShOk)
/-- what a slice of numbers tells of the world: its first cells -/
def factsAt (ρ : Nat → Int) (a : Option Addr) (c d : Nat) : Exec.Nv where
  σ := fun _ => none
  κ := fun _ => 0
  ρ := ρ
  I := fun w => ∀ ad, a = some ad → ∀ j, j < c → w.cell? (ad.add j) = some (.int .i64 (ρ (d + j)))
  F := fun b => 0 < c ∧ ∃ ad, a = some ad ∧ b = ad.block
  st := by
    intro w w' hF hI ad ha j hj
    have hb := hF ad.block ⟨by omega, ad, ha, rfl⟩
    rw [← hI ad ha j hj]
    have e : (ad.add j).block = ad.block := by unfold Addr.add; split <;> rfl
    unfold World.cell?
    rw [e, hb]
theorem factsAt_rep {P : Program} (ρ : Nat → Int) (a : Option Addr) (c d : Nat) {n : Nat} (hn : 256 ≤ n) (w : World) (hI : (factsAt ρ a c d).I w) : Exec.Rep P (factsAt ρ a c d) (Exec.st0 n) w :=
  ⟨fun m _ hl => by rw [Exec.st0_dead] at hl; exact absurd hl (Nat.lt_irrefl 0), fun m _ b _ _ hl => by rw [Exec.st0_dead] at hl; exact absurd hl (Nat.lt_irrefl 0), fun _ _ => rfl, fun _ _ h => (by cases h), fun _ _ _ h => (by cases h), hn, hI,
    fun b h => by
      obtain ⟨hc, ad, ha, rfl⟩ := h
      exact ⟨block_lt_of_cell (hI ad ha 0 hc), fun _ _ hl => by rw [Exec.st0_dead] at hl; exact absurd hl (Nat.lt_irrefl 0)⟩⟩
theorem mix_go {l : List Row} {sh : List ShRow} {q : Nat} {cl : Exec.FnC} {c : Nat} {ρ : Nat → Int} {a3 : Option Addr} {len3 cap3 : Nat} {w : World}
    (hl : ∀ e ∈ l, RowOk ρ e) (hc : ∀ e ∈ cvsX, CvOk ρ e) (hd : ∀ e ∈ sh, ShOk ρ e) (hu : Exec.UOk ρ ⟨34, 3, q⟩) (hcl : Exec.OneOk Tryz.prog ρ 19 cl)
    (h5 : ρ 5 = (len3 : Int)) (hcell : ∀ j, j < c → j < len3 ∧ ∃ ad, a3 = some ad ∧ w.cell? (ad.add j) = some (.int .i64 (ρ (6 + j)))) (h : mixRun l sh q cl c = true) :
    Calls Tryz.prog 4 #[.int .i64 (ρ 0), .int .i64 (ρ 1), .int .i64 (ρ 2), .slice a3 len3 cap3] w fun e w' => e = .returned (.bool true) ∧ Below w.heap.size w w' := by
  have hH : Exec.HyAt Tryz.prog ρ (Exec.hyS l cvsX sh [⟨34, 3, q⟩]) := Exec.hyS_ok hl hc hd fun e he => by rw [List.mem_singleton.1 he]; exact hu
  have hI : (factsAt ρ a3 c 6).I w := fun ad ha j hj => by
    obtain ⟨-, ad', ha', hcc⟩ := hcell j hj
    obtain rfl : ad = ad' := Option.some.inj (ha.symm.trans ha')
    exact hcc
  have hv : Exec.VRL (factsAt ρ a3 c 6) [Exec.mkVar 0, Exec.mkVar 1, Exec.mkVar 2, argW c] [.int .i64 (ρ 0), .int .i64 (ρ 1), .int .i64 (ρ 2), .slice a3 len3 cap3] :=
    .cons (.mkVar 0) (.cons (.mkVar 1) (.cons (.mkVar 2) (.cons (.arg (v := argW c) .i64 a3 len3 cap3 rfl rfl h5 (fun j hj => by
      obtain ⟨h1, ad, ha, -⟩ := hcell j hj
      exact ⟨h1, ad, ha, fun w' hw' => hw' ad ha j hj⟩)) .nil)))
  have hR : Exec.Rep Tryz.prog (factsAt ρ a3 c 6) startR w := factsAt_rep ρ a3 c 6 (by decide) w hI
  refine (Exec.closed_at (runQ_ok hH (Exec.specAdd_ok hcl (specR_ok ρ))) rfl hv hR (Exec.fnOk_enter (by kernel_rfl) _ w) h).mono ?_
  rintro e w' ⟨h1, h2⟩
  exact ⟨h1, h2.os, h2.tape, h2.output, h2.size, fun k hk => h2.block k hk (fun m _ _ hl => by unfold startR at hl; rw [Exec.st0_dead] at hl; exact absurd hl (Nat.lt_irrefl 0))⟩
theorem mul_rng {x s : Int} (h0 : 0 ≤ x) (h1 : x ≤ 255) (k0 : 0 ≤ s) (k1 : s ≤ 63) : 0 ≤ x * s ∧ x * s ≤ 20000 := by
  refine ⟨Int.mul_nonneg h0 k0, ?_⟩
  have := Int.mul_le_mul h1 k1 k0 (by decide)
  omega
theorem law_mixes (a0 a1 a2 : Int) (a3 : Option Addr) (len3 cap3 : Nat) (z3 : List Int) (w : World)
    (w3 : (a3 = none ∧ len3 = 0 ∧ cap3 = 0 ∧ z3 = []) ∨ ∃ x, a3 = some x ∧ len3 ≤ cap3 ∧ cap3 ≤ maxLen ∧ z3.length = cap3 ∧ (∀ i, i < z3.length → w.cell? (x.add i) = some (.int .i64 (z3.getD i 0))) ∧ ∀ n ∈ z3, (Lit.int .i64 n).wf = true) :
    Calls Tryz.prog 4 #[.int .i64 a0, .int .i64 a1, .int .i64 a2, .slice a3 len3 cap3] w fun e w' => e = .returned (.bool true) ∧ Below w.heap.size w w' := by
  obtain ⟨x, hx⟩ : ∃ x : Int, x = (Exec.bitsOf a0 255 : Nat) := ⟨_, rfl⟩
  obtain ⟨y, hy⟩ : ∃ y : Int, y = (Exec.bitsOf a1 255 : Nat) := ⟨_, rfl⟩
  have bx := Exec.bitsOf_le a0 (c := 255) (by decide)
  have by' := Exec.bitsOf_le a1 (c := 255) (by decide)
  have x0 : 0 ≤ x := by omega
  have x1 : x ≤ 255 := by omega
  have y0 : 0 ≤ y := by omega
  have y1 : y ≤ 255 := by omega
  obtain ⟨q, hq⟩ : ∃ q : Nat, a2 % 18446744073709551616 % 3 = (q : Int) := ⟨(a2 % 18446744073709551616 % 3).toNat, by omega⟩
  have q3 : q = 0 ∨ q = 1 ∨ q = 2 := by omega
  have hu : (a2 % 18446744073709551616).tmod ((3 : Nat) : Int) = (q : Int) := by
    rw [Int.tmod_eq_emod_of_nonneg (by omega)]
    exact hq
  have uok : ∀ (p0 p1 s0 s1 o0 o1 off : Int), Exec.UOk (rhoX a0 a1 a2 len3 x y (fun j => z3.getD j 0) s0 s1 o0 o1 off p0 p1) ⟨34, 3, q⟩ := fun p0 p1 s0 s1 o0 o1 off => ⟨by show q < _; omega, by show (3 : Nat) ≠ 0; decide, by show (3 : Nat) < _; decide, hu⟩
  rcases Nat.lt_or_ge 3 len3 with hn | hn
  · -- the four weights are told
    have hcell : ∀ j, j < 4 → j < len3 ∧ ∃ ad, a3 = some ad ∧ w.cell? (ad.add j) = some (.int .i64 (z3.getD j 0)) := by
      intro j hj
      refine ⟨by omega, ?_⟩
      rcases w3 with ⟨-, h, -, -⟩ | ⟨ad, ha, hlc, -, hz, hc, -⟩
      · omega
      · exact ⟨ad, ha, hc j (by omega)⟩
    have hcell' : ∀ (p0 p1 s0 s1 o0 o1 off : Int), ∀ j, j < 4 → j < len3 ∧ ∃ ad, a3 = some ad ∧ w.cell? (ad.add j) = some (.int .i64 (rhoX a0 a1 a2 len3 x y (fun j => z3.getD j 0) s0 s1 o0 o1 off p0 p1 (6 + j))) := by
      intro p0 p1 s0 s1 o0 o1 off j hj
      have h := hcell j hj
      obtain rfl | rfl | rfl | rfl : j = 0 ∨ j = 1 ∨ j = 2 ∨ j = 3 := by omega
      all_goals exact h
    obtain ⟨s0, hs0⟩ : ∃ s : Int, s = (Exec.bitsOf (z3.getD 0 0) 63 : Nat) := ⟨_, rfl⟩
    obtain ⟨s1, hs1⟩ : ∃ s : Int, s = (Exec.bitsOf (z3.getD 1 0) 63 : Nat) := ⟨_, rfl⟩
    obtain ⟨o0, ho0⟩ : ∃ s : Int, s = (Exec.bitsOf (z3.getD 2 0) 15 : Nat) := ⟨_, rfl⟩
    obtain ⟨o1, ho1⟩ : ∃ s : Int, s = (Exec.bitsOf (z3.getD 3 0) 15 : Nat) := ⟨_, rfl⟩
    have b0 := Exec.bitsOf_le (z3.getD 0 0) (c := 63) (by decide)
    have b1 := Exec.bitsOf_le (z3.getD 1 0) (c := 63) (by decide)
    have b2 := Exec.bitsOf_le (z3.getD 2 0) (c := 15) (by decide)
    have b3 := Exec.bitsOf_le (z3.getD 3 0) (c := 15) (by decide)
    have hG : ∀ (p0 p1 off : Int), ∀ e ∈ rowsG, RowOk (rhoX a0 a1 a2 len3 x y (fun j => z3.getD j 0) s0 s1 o0 o1 off p0 p1) e := fun p0 p1 off => rowsG_ok (by omega) hs0 hs1 ho0 ho1
    rcases q3 with rfl | rfl | rfl
    · exact mix_go (c := 4) (ρ := rhoX a0 a1 a2 len3 x y (fun j => z3.getD j 0) s0 s1 o0 o1 0 0 0) (fun e he => (List.mem_append.1 he).elim (hG _ _ _ e) (rowsX_ok hx hy x1 y1 e)) (cvsX_ok x0 x1 y0 y1) shsX_ok (uok _ _ _ _ _ _ _) Exec.bad_one rfl (hcell' _ _ _ _ _ _ _) mix_0_1
    · have m0 := mul_rng x0 x1 (s := s0) (by omega) (by omega)
      have m1 := mul_rng y0 y1 (s := s1) (by omega) (by omega)
      obtain ⟨p0, hp0⟩ : ∃ p, p = x * s0 := ⟨_, rfl⟩
      obtain ⟨p1, hp1⟩ : ∃ p, p = y * s1 := ⟨_, rfl⟩
      rw [← hp0] at m0
      rw [← hp1] at m1
      obtain ⟨off, hoff⟩ : ∃ f, f = (o0 + o1 + 1) / 2 := ⟨_, rfl⟩
      refine mix_go (c := 4) (ρ := rhoX a0 a1 a2 len3 x y (fun j => z3.getD j 0) s0 s1 o0 o1 off p0 p1) (fun e he => ?_) (cvsX_ok x0 x1 y0 y1) (fun e he => ?_) (uok _ _ _ _ _ _ _) (clipC_one ?_ ?_ ?_) rfl (hcell' _ _ _ _ _ _ _) mix_1_1
      · rcases List.mem_append.1 he with he | he
        · exact hG _ _ _ e he
        · rcases List.mem_append.1 he with he | he
          · exact rows4_ok (by omega) (by omega) (by omega) (by omega) (by omega) (by omega) (by omega) (by omega) (by omega) (by omega) (by omega) (by omega) hoff hp0 hp1 e he
          · rcases List.mem_append.1 he with he | he
            · exact rowsW_ok (by omega) (by omega) (by omega) (by omega) e he
            · exact rowsX_ok hx hy x1 y1 e he
      · rcases List.mem_append.1 he with he | he
        · exact shs4_ok hoff e he
        · rcases List.mem_append.1 he with he | he
          · exact shsW_ok e he
          · exact shsX_ok e he
      · show -1048576 ≤ (p0 + p1 + 32) / 64 + off
        omega
      · show (p0 + p1 + 32) / 64 + off ≤ 1048576
        omega
      · rfl
    · obtain ⟨p0, hp0⟩ : ∃ p, p = x * 40 := ⟨_, rfl⟩
      obtain ⟨p1, hp1⟩ : ∃ p, p = y * 24 := ⟨_, rfl⟩
      refine mix_go (c := 4) (ρ := rhoX a0 a1 a2 len3 x y (fun j => z3.getD j 0) s0 s1 o0 o1 0 p0 p1) (fun e he => ?_) (cvsX_ok x0 x1 y0 y1) (fun e he => ?_) (uok _ _ _ _ _ _ _) (clipC_one ?_ ?_ ?_) rfl (hcell' _ _ _ _ _ _ _) mix_2_1
      · rcases List.mem_append.1 he with he | he
        · exact hG _ _ _ e he
        · rcases List.mem_append.1 he with he | he
          · exact rows2_ok (by omega) (by omega) (by omega) (by omega) rfl hp0 hp1 e he
          · rcases List.mem_append.1 he with he | he
            · exact rowsW_ok (by omega) (by omega) (by omega) (by omega) e he
            · exact rowsX_ok hx hy x1 y1 e he
      · rcases List.mem_append.1 he with he | he
        · exact shsW_ok e he
        · exact shsX_ok e he
      · show -1048576 ≤ (p0 + p1 + 32) / 64
        omega
      · show (p0 + p1 + 32) / 64 ≤ 1048576
        omega
      · show clipR ((p0 + p1 + 32) / 64 + 0) = clipR ((p0 + p1 + 32) / 64)
        rw [Int.add_zero]
  · -- they are not
    have hL : ∀ (p0 p1 s0 s1 off : Int), ∀ e ∈ rowsL, RowOk (rhoX a0 a1 a2 len3 x y (fun j => z3.getD j 0) s0 s1 0 0 off p0 p1) e := fun p0 p1 s0 s1 off => rowsL_ok (by omega)
    rcases q3 with rfl | rfl | rfl
    · exact mix_go (c := 0) (ρ := rhoX a0 a1 a2 len3 x y (fun j => z3.getD j 0) 0 0 0 0 0 0 0) (fun e he => (List.mem_append.1 he).elim (hL _ _ _ _ _ e) (rowsX_ok hx hy x1 y1 e)) (cvsX_ok x0 x1 y0 y1) shsX_ok (uok _ _ _ _ _ _ _) Exec.bad_one rfl (fun j hj => absurd hj (Nat.not_lt_zero j)) mix_0_0
    · obtain ⟨p0, hp0⟩ : ∃ p, p = x * 20 := ⟨_, rfl⟩
      obtain ⟨p1, hp1⟩ : ∃ p, p = y * 44 := ⟨_, rfl⟩
      refine mix_go (c := 0) (ρ := rhoX a0 a1 a2 len3 x y (fun j => z3.getD j 0) 20 44 0 0 (-1) p0 p1) (fun e he => ?_) (cvsX_ok x0 x1 y0 y1) (fun e he => ?_) (uok _ _ _ _ _ _ _) (clipC_one ?_ ?_ ?_) rfl (fun j hj => absurd hj (Nat.not_lt_zero j)) mix_1_0
      · rcases List.mem_append.1 he with he | he
        · exact hL _ _ _ _ _ e he
        · rcases List.mem_append.1 he with he | he
          · exact rows3_ok (by omega) (by omega) (by omega) (by omega) rfl hp0 hp1 e he
          · rcases List.mem_append.1 he with he | he
            · exact rowsW_ok (by omega) (by omega) (by omega) (by omega) e he
            · exact rowsX_ok hx hy x1 y1 e he
      · rcases List.mem_append.1 he with he | he
        · exact shsW_ok e he
        · exact shsX_ok e he
      · show -1048576 ≤ (p0 + p1 + 32) / 64 + -1
        omega
      · show (p0 + p1 + 32) / 64 + -1 ≤ 1048576
        omega
      · rfl
    · obtain ⟨p0, hp0⟩ : ∃ p, p = x * 40 := ⟨_, rfl⟩
      obtain ⟨p1, hp1⟩ : ∃ p, p = y * 24 := ⟨_, rfl⟩
      refine mix_go (c := 0) (ρ := rhoX a0 a1 a2 len3 x y (fun j => z3.getD j 0) 0 0 0 0 0 p0 p1) (fun e he => ?_) (cvsX_ok x0 x1 y0 y1) (fun e he => ?_) (uok _ _ _ _ _ _ _) (clipC_one ?_ ?_ ?_) rfl (fun j hj => absurd hj (Nat.not_lt_zero j)) mix_2_0
      · rcases List.mem_append.1 he with he | he
        · exact hL _ _ _ _ _ e he
        · rcases List.mem_append.1 he with he | he
          · exact rows2_ok (by omega) (by omega) (by omega) (by omega) rfl hp0 hp1 e he
          · rcases List.mem_append.1 he with he | he
            · exact rowsW_ok (by omega) (by omega) (by omega) (by omega) e he
            · exact rowsX_ok hx hy x1 y1 e he
      · rcases List.mem_append.1 he with he | he
        · exact shsW_ok e he
        · exact shsX_ok e he
      · show -1048576 ≤ (p0 + p1 + 32) / 64
        omega
      · show (p0 + p1 + 32) / 64 ≤ 1048576
        omega
      · show clipR ((p0 + p1 + 32) / 64 + 0) = clipR ((p0 + p1 + 32) / 64)
        rw [Int.add_zero]
end Go.Proofs.YtcmehedjdfopdaaGreat
