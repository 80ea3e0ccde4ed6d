/-
  The law ReconPcm over a slice of bytes as the guide's shell tells it.
-/
import Derived.Test.YtcmehedjdfopdaaGreatJ53
namespace Go.Proofs.YtcmehedjdfopdaaGreat
open Go Go.RowKit

theorem bs_of {w : World} {a : Option Addr} {len cap : Nat} {zs : List Int} (h : (a = none ∧ len = 0 ∧ cap = 0 ∧ zs = []) ∨ ∃ x, a = some x ∧ len ≤ cap ∧ cap ≤ maxLen ∧ zs.length = cap ∧ (∀ i, i < zs.length → w.cell? (x.add i) = some (.int .u8 (zs.getD i 0))) ∧ ∀ n ∈ zs, (Lit.int .u8 n).wf = true) : ∃ bs, BsAt w a len bs ∧ len ≤ maxLen := by
  rcases h with ⟨rfl, rfl, rfl, rfl⟩ | ⟨x, rfl, hl, hm, hz, hcell, hwf⟩
  · exact ⟨[], ⟨rfl, fun i hi => absurd hi (by omega)⟩, by decide⟩
  · refine ⟨zs.take len, ⟨by rw [List.length_take]; omega, fun i hi => ⟨x, rfl, ?_⟩⟩, by omega⟩
    have e : (zs.take len).getD i 0 = zs.getD i 0 := by rw [List.getD_eq_getElem?_getD, List.getElem?_take_of_lt hi, ← List.getD_eq_getElem?_getD]
    rw [e]
    refine ⟨hcell i (by omega), ?_⟩
    have hm2 : zs.getD i 0 ∈ zs := by
      rw [List.getD_eq_getElem?_getD, List.getElem?_eq_getElem (by omega), Option.getD_some]
      exact List.getElem_mem _
    have hw := hwf _ hm2
    clear hm2 hcell e
    generalize zs.getD i 0 = n at *
    simp [Lit.wf, IntKind.min, IntKind.max, IntKind.signed, IntKind.bits] at hw
    omega
theorem law_pcm_row {w : World} {a : Option Addr} {len cap : Nat} {zs : List Int} (a1 a2 : Int) (de : Bool) (h : (a = none ∧ len = 0 ∧ cap = 0 ∧ zs = []) ∨ ∃ x, a = some x ∧ len ≤ cap ∧ cap ≤ maxLen ∧ zs.length = cap ∧ (∀ i, i < zs.length → w.cell? (x.add i) = some (.int .u8 (zs.getD i 0))) ∧ ∀ n ∈ zs, (Lit.int .u8 n).wf = true) :
    Calls Tryz.prog 8 #[.slice a len cap, .int .i64 a1, .int .i64 a2, .bool de] w fun e w' => e = .returned (.bool true) ∧ Below w.heap.size w w' := by
  obtain ⟨bs, hb, hl⟩ := bs_of h
  exact (law_pcm a len cap bs a1 a2 de w hb hl).mono fun e w' ⟨h1, h2⟩ => ⟨h1, h2.below⟩
end Go.Proofs.YtcmehedjdfopdaaGreat
