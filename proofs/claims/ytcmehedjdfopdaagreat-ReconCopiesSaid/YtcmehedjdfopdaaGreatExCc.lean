/-
  ReconCopies: the law.
-/
import Derived.Test.YtcmehedjdfopdaaGreatExCbA
import Derived.Test.YtcmehedjdfopdaaGreatExCbB
import Derived.Test.YtcmehedjdfopdaaGreatExCbC
import Derived.Test.YtcmehedjdfopdaaGreatExCbD
import Derived.Below
import Derived.Laws.Rows
namespace Go.Proofs.YtcmehedjdfopdaaGreat
open Go Go.RowKit
/-- what a slice of bytes tells of the world -/
def factsB (ρ : Nat → Int) (a : Option Addr) (n : Nat) (f : Nat → Int) : Exec.Nv where
  σ := fun _ => none
  κ := fun _ => 0
  ρ := ρ
  I := fun w => ∀ ad, a = some ad → ∀ j, j < n → w.cell? (ad.add j) = some (.int .u8 (f j))
  F := fun b => 0 < n ∧ ∃ ad, a = some ad ∧ b = ad.block
  st := by
    intro w w' hF hI ad ha j hj
    have hb := hF ad.block ⟨by omega, ad, ha, rfl⟩
    rw [← hI ad ha j hj]
    have e : (ad.add j).block = ad.block := by unfold Addr.add; split <;> rfl
    unfold World.cell?
    rw [e, hb]
theorem factsB_rep {P : Program} (ρ : Nat → Int) (a : Option Addr) (n : Nat) (f : Nat → Int) (w : World) (hI : (factsB ρ a n f).I w) : Exec.Rep P (factsB ρ a n f) startR w := by
  unfold startR
  exact ⟨fun m _ hl => by rw [Exec.st0_dead] at hl; exact absurd hl (Nat.lt_irrefl 0), fun m _ b _ _ hl => by rw [Exec.st0_dead] at hl; exact absurd hl (Nat.lt_irrefl 0), fun _ _ => rfl, fun _ _ h => (by cases h), fun _ _ _ h => (by cases h), (by decide : 256 ≤ 272), hI,
    fun b h => by
      obtain ⟨hc, ad, ha, rfl⟩ := h
      exact ⟨block_lt_of_cell (hI ad ha 0 hc), fun _ _ hl => by rw [Exec.st0_dead] at hl; exact absurd hl (Nat.lt_irrefl 0)⟩⟩
theorem rhoB0 (n : Nat) (f : Nat → Int) (j : Nat) (h : 712 ≤ j) : rhoB n f j = f ((j - 712) % n) := by unfold rhoB; rw [if_pos h]
theorem rhoB1 (n : Nat) (f : Nat → Int) (j : Nat) (h : j < 512) : rhoB n f (200 + j) = ((j % n : Nat) : Int) := by unfold rhoB; rw [if_neg (by omega), if_pos (by omega), show 200 + j - 200 = j by omega]
theorem rhoB5 (n : Nat) (f : Nat → Int) : rhoB n f 5 = n := by unfold rhoB; rw [if_neg (by omega), if_neg (by omega)]
theorem binB_ok (t : Bool) (n : Nat) (f : Nat → Int) (ht : t = decide (0 < n)) : Exec.BinAt Tryz.prog (rhoB n f) (binB t) := by
  refine Exec.orF_ok (Exec.rtF_ok fun j h0 h1 => ?_) ?_
  · obtain rfl : j = 5 := by omega
    refine boo_res ?_
    show some (Value.bool (decide (IntKind.i64.wrap ((0 : Nat) : Int) < rhoB n f 5))) = some (Value.bool t)
    rw [kJ 0 (by decide), rhoB5, ht]
    congr 2
    exact decide_eq_decide.2 (by omega)
  · cases t with
    | false => exact Exec.noB_ok
    | true =>
      have hn : 0 < n := by simpa using ht.symm
      refine Exec.numF_ok (by decide) fun j hj => ?_
      refine var_res ?_
      show (if rhoB n f 5 = 0 then none else some (Value.int .i64 ((j : Int).tmod (rhoB n f 5)))) = some (Value.int .i64 (rhoB n f (200 + j)))
      rw [rhoB5, rhoB1 n f j hj, if_neg (by omega), Int.tmod_eq_emod_of_nonneg (by omega)]
      rfl
theorem specB_ok {n : Nat} {f : Nat → Int} (hf : ∀ i, 0 ≤ f i ∧ f i ≤ 255) : Exec.SpecOk Tryz.prog (rhoB n f) specB := by
  have hJ : ∀ i, 712 ≤ i → i < 712 + 512 → 0 ≤ rhoB n f i ∧ rhoB n f i ≤ 255 := fun i h0 _ => by rw [rhoB0 n f i h0]; exact hf _
  exact Exec.specAdd_ok (Exec.copy_one luma_copies (by kernel_rfl) (by kernel_rfl) (by kernel_rfl) (by decide) (by decide) (by decide) hJ)
    (Exec.specAdd_ok (Exec.copy_one chroma_copies (by kernel_rfl) (by kernel_rfl) (by kernel_rfl) (by decide) (by decide) (by decide) hJ)
      (Exec.specAdd_ok (Exec.mean_one mean_laws (by kernel_rfl) (by kernel_rfl) hJ) (specR_ok _)))
theorem copies_go (t bi : Bool) (a : Option Addr) (n cap : Nat) (f : Nat → Int) (w : World) (ht : t = decide (0 < n)) (hf : ∀ i, 0 ≤ f i ∧ f i ≤ 255) (hI : 0 < n → ∃ ad, a = some ad ∧ ∀ i, i < n → w.cell? (ad.add i) = some (.int .u8 (f i))) (hr : copyRun t bi = true) :
    Calls Tryz.prog 9 #[.slice a n cap, .bool bi] w fun e w' => e = .returned (.bool true) ∧ Below w.heap.size w w' := by
  have hH : Exec.HyAt Tryz.prog (rhoB n f) (hyB t) := Exec.hyF_ok (binB_ok t n f ht)
    (Exec.orC_ok (Exec.cvG_ok fun j h0 _ => by have := hf ((j - 712) % n); rw [rhoB0 n f j h0, IntKind.wrap_u8]; omega) (Exec.cvG_ok fun j h0 _ => by have := hf ((j - 712) % n); rw [rhoB0 n f j h0]; exact i64wI _ (by omega) (by omega))) Exec.noS_ok
  have hI2 : (factsB (rhoB n f) a n f).I w := fun ad ha j hj => by
    obtain ⟨ad', ha', hc⟩ := hI (by omega)
    obtain rfl : ad = ad' := Option.some.inj (ha.symm.trans ha')
    exact hc j hj
  have hv : Exec.VRL (factsB (rhoB n f) a n f) [argB t, Exec.vS (boS bi)] [.slice a n cap, .bool bi] := by
    refine .cons (.argx (v := argB t) .u8 a n cap rfl rfl (rhoB5 n f) fun j hj => ?_) (.cons (.sc (SR.bo bi)) .nil)
    cases t with
    | false => exact absurd hj (Nat.not_lt_zero j)
    | true =>
      have hj : j < 512 := hj
      have hn : 0 < n := by simpa using ht.symm
      obtain ⟨ad, ha, -⟩ := hI hn
      refine ⟨j % n, rhoB1 n f j hj, Nat.mod_lt _ hn, ad, ha, fun w' hw' => ?_⟩
      rw [hw' ad ha _ (Nat.mod_lt _ hn)]
      have e : (factsB (rhoB n f) a n f).ρ ((argB true).s.d + j + (argB true).s.c) = f (j % n) := by
        have ec : (argB true).s.c = 512 := rfl
        have ed : (argB true).s.d = 200 := rfl
        rw [ec, ed]
        have er : (factsB (rhoB n f) a n f).ρ = rhoB n f := rfl
        rw [er, rhoB0 n f _ (by omega), show 200 + j + 512 - 712 = j by omega]
      rw [e]
  refine (Exec.closed_at (runQ_ok hH (specB_ok hf)) rfl hv (factsB_rep _ a n f w hI2) (Exec.fnOk_enter (by kernel_rfl) _ w) hr).mono ?_
  rintro e w' ⟨h1, h2⟩
  exact ⟨h1, h2.os, h2.tape, h2.output, h2.size, fun k hk => h2.block k hk (fun m _ _ hl => by unfold startR at hl; rw [Exec.st0_dead] at hl; exact absurd hl (Nat.lt_irrefl 0))⟩
theorem law_copies {w : World} {a : Option Addr} {len cap : Nat} {zs : List Int} (bi : Bool) (h : (a = none ∧ len = 0 ∧ cap = 0 ∧ zs = []) ∨ ∃ x, a = some x ∧ len ≤ cap ∧ cap ≤ maxLen ∧ zs.length = cap ∧ (∀ i, i < zs.length → w.cell? (x.add i) = some (.int .u8 (zs.getD i 0))) ∧ ∀ n ∈ zs, (Lit.int .u8 n).wf = true) :
    Calls Tryz.prog 9 #[.slice a len cap, .bool bi] w fun e w' => e = .returned (.bool true) ∧ Below w.heap.size w w' := by
  have hf : ∀ i, 0 ≤ zs.getD i 0 ∧ zs.getD i 0 ≤ 255 := fun i => by
    rcases h with ⟨-, -, -, rfl⟩ | ⟨x, -, -, -, -, -, hwf⟩
    · simp
    · by_cases hi : i < zs.length
      · have hm2 : zs.getD i 0 ∈ zs := by
          rw [List.getD_eq_getElem?_getD, List.getElem?_eq_getElem hi, Option.getD_some]
          exact List.getElem_mem _
        have hw := hwf _ hm2
        clear hm2 hwf
        generalize zs.getD i 0 = n at *
        simp [Lit.wf, IntKind.min, IntKind.max, IntKind.signed, IntKind.bits] at hw
        omega
      · rw [List.getD_eq_getElem?_getD, List.getElem?_eq_none (by omega)]
        simp
  have hI : 0 < len → ∃ ad, a = some ad ∧ ∀ i, i < len → w.cell? (ad.add i) = some (.int .u8 (zs.getD i 0)) := fun hl => by
    rcases h with ⟨-, h0, -, -⟩ | ⟨x, ha, hlc, -, hz, hc, -⟩
    · omega
    · exact ⟨x, ha, fun i hi => hc i (by omega)⟩
  by_cases hl : 0 < len
  · cases bi
    · exact copies_go true false a len cap _ w (by rw [decide_eq_true hl]) hf hI copy_runC
    · exact copies_go true true a len cap _ w (by rw [decide_eq_true hl]) hf hI copy_runD
  · cases bi
    · exact copies_go false false a len cap _ w (by rw [decide_eq_false hl]) hf hI copy_runA
    · exact copies_go false true a len cap _ w (by rw [decide_eq_false hl]) hf hI copy_runB
end Go.Proofs.YtcmehedjdfopdaaGreat
