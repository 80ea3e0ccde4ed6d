/-
  interp's Luma and Chroma on an even plane: the laws.
-/
import Derived.Test.YtcmehedjdfopdaaGreatExIf
namespace Go.Proofs.YtcmehedjdfopdaaGreat
open Go Go.RowKit
open Go.Exec (Row RowOk CvRow CvOk ShRow ShOk)
theorem and_nat {x c m : Nat} (hx : x ≤ 4096) (hc : c < 8) (h : x &&& c = m) : ((BitVec.ofInt 64 (x : Int) &&& BitVec.ofInt 64 (c : Int)).toNat : Int) = (m : Int) := by
  have e1 : BitVec.ofInt 64 (x : Int) = BitVec.ofNat 64 x := by simp
  have e2 : BitVec.ofInt 64 (c : Int) = BitVec.ofNat 64 c := by simp
  rw [e1, e2, BitVec.toNat_and, BitVec.toNat_ofNat, BitVec.toNat_ofNat, Nat.mod_eq_of_lt (show x < 2 ^ 64 by omega), Nat.mod_eq_of_lt (show c < 2 ^ 64 by omega), h]
theorem andI3 (x : Nat) : x &&& 3 = x % 4 := Nat.and_two_pow_sub_one_eq_mod x 2
theorem andI7 (x : Nat) : x &&& 7 = x % 8 := Nat.and_two_pow_sub_one_eq_mod x 3
theorem kI (n : Nat) (h : n ≤ 4096) : IntKind.i64.wrap (n : Int) = n := i64nI _ (by omega)
theorem rowsD_ok {x y : Nat} {v : Int} (hx : x ≤ 4096) (hy : y ≤ 4096) (h0 : 0 ≤ v) (h1 : v ≤ 255) : ∀ e ∈ rowsD (x % 4) (y % 4), RowOk (rhoL x y v) e := by
  intro e he
  simp only [rowsD, List.mem_cons, List.not_mem_nil, or_false] at he
  rcases he with rfl | rfl | rfl | rfl
  · refine row_int (by omega) ?_
    simp only [Exec.valR, Exec.opV, kI 3 (by decide)]
    show some (Value.int .i64 (IntKind.i64.wrap ((BitVec.ofInt 64 (x : Int) &&& BitVec.ofInt 64 ((3 : Nat) : Int)).toNat : Nat))) = _
    rw [and_nat hx (by decide) (andI3 x)]
  · refine row_int (by omega) ?_
    simp only [Exec.valR, Exec.opV, kI 3 (by decide)]
    show some (Value.int .i64 (IntKind.i64.wrap ((BitVec.ofInt 64 (y : Int) &&& BitVec.ofInt 64 ((3 : Nat) : Int)).toNat : Nat))) = _
    rw [and_nat hy (by decide) (andI3 y)]
  · exact row_var (by simp only [Exec.valR, Exec.opV]; simp only [rhoL]; rw [w64 (by omega) (by omega)]; congr 2; omega)
  · exact row_var (by simp only [Exec.valR, Exec.opV, kI 1 (by decide)]; simp only [rhoL]; rw [w64 (by omega) (by omega)]; rfl)
theorem shsD_ok {x y v : Int} : ∀ e ∈ shsD, ShOk (rhoL x y v) e := by
  intro e he
  simp only [shsD, List.mem_cons, List.not_mem_nil, or_false] at he
  rcases he with rfl | rfl | rfl
  · exact sh_ok (d := 4) rfl (by decide) rfl
  · exact sh_ok (d := 4) rfl (by decide) rfl
  · exact sh_ok (d := 2) rfl (by decide) (show v = (2 * v + 1) / 2 by omega)
theorem specL_ok {ρ : Nat → Int} (h0 : 0 ≤ ρ 2) (h1 : ρ 2 ≤ 255) (hL : ∀ i ∈ [0, 1], 0 ≤ ρ i ∧ ρ i ≤ 4096) : Exec.SpecOk Tryz.prog ρ specL :=
  Exec.specAdd_ok (Exec.pl_one half_law (by kernel_rfl) (by kernel_rfl) (by kernel_rfl) (by decide) (by decide) (fun i hi => by rw [List.mem_singleton.1 hi]; exact ⟨h0, h1⟩))
    (Exec.specAdd_ok (Exec.ask_one (ask_law (by decide) (by decide) (by decide) (by decide) (by decide) (by decide)) (by kernel_rfl) (by decide) (by decide) (by decide) hL) Exec.spec0_ok)
theorem luma_law : Exec.EvenLaw Tryz.prog 125 16 16 8 := by
  refine Exec.even_of_run (e := 3) (u := 5) (by kernel_rfl) (by kernel_rfl) (by kernel_rfl) (by decide) (by decide) (by decide) (by decide) fun x y v hx hy v0 v1 => ?_
  refine ⟨rhoL x y v, _, runQ_ok (Exec.hyS_ok (rowsD_ok hx hy v0 v1) (fun e he => by cases he) shsD_ok (fun e he => by cases he)) (specL_ok v0 v1 (fun i hi => ?_)), rfl, rfl, rfl, luma_all (x % 4) (by omega) (y % 4) (by omega)⟩
  simp only [List.mem_cons, List.not_mem_nil, or_false] at hi
  rcases hi with rfl | rfl
  · show 0 ≤ (x : Int) ∧ (x : Int) ≤ 4096
    omega
  · show 0 ≤ (y : Int) ∧ (y : Int) ≤ 4096
    omega
def rhoC (x y v : Int) : Nat → Int
  | 0 => x | 1 => y | 2 => v | 30 => x / 8 | 31 => y / 8 | 50 => x % 8 | 51 => 8 - x % 8 | 52 => (8 - x % 8) * v | 53 => x % 8 * v | 54 => 8 * v
  | 60 => y % 8 | 61 => 8 - y % 8 | 62 => (8 - y % 8) * (8 * v) | 63 => y % 8 * (8 * v) | 64 => 64 * v | 65 => 64 * v + 32 | _ => 0
noncomputable def rowsC : List Row := [⟨.and, true, 0, false, 7, vrS 50⟩, ⟨.and, true, 1, false, 7, vrS 60⟩, ⟨.sub, false, 8, true, 50, vrS 51⟩, ⟨.mul, true, 51, true, 2, vrS 52⟩, ⟨.mul, true, 50, true, 2, vrS 53⟩, ⟨.add, true, 52, true, 53, vrS 54⟩,
  ⟨.sub, false, 8, true, 60, vrS 61⟩, ⟨.mul, true, 61, true, 54, vrS 62⟩, ⟨.mul, true, 60, true, 54, vrS 63⟩, ⟨.add, true, 62, true, 63, vrS 64⟩, ⟨.add, true, 64, false, 32, vrS 65⟩]
noncomputable def shsC : List ShRow := [⟨false, 0, 3, vrS 30⟩, ⟨false, 1, 3, vrS 31⟩, ⟨false, 65, 6, vrS 2⟩]
noncomputable def specC : Nat → Option Exec.FnC := Exec.specAdd 166 (Exec.plC 255 5 8 8 2 [2]) (Exec.specAdd 163 (Exec.askC 8 8 4 [0, 1]) Exec.spec0)
noncomputable def chromaR : Bool := Exec.evenOk 3 16 (runQ (Exec.hyS rowsC [] shsC []) specC 126 (Exec.evenArgs 8 8 4) (Exec.evenSt 5 64))
theorem mul_le8 {d v : Int} (h0 : 0 ≤ d) (h1 : d ≤ 8) (k0 : 0 ≤ v) (k1 : v ≤ 2040) : 0 ≤ d * v ∧ d * v ≤ 20000 := by
  refine ⟨Int.mul_nonneg h0 k0, ?_⟩
  have := Int.mul_le_mul h1 k1 k0 (by decide)
  omega
theorem rowsC_ok {x y : Nat} {v : Int} (hx : x ≤ 4096) (hy : y ≤ 4096) (h0 : 0 ≤ v) (h1 : v ≤ 255) : ∀ e ∈ rowsC, RowOk (rhoC x y v) e := by
  have a1 := mul_le8 (d := 8 - (x : Int) % 8) (v := v) (by omega) (by omega) h0 (by omega)
  have a2 := mul_le8 (d := (x : Int) % 8) (v := v) (by omega) (by omega) h0 (by omega)
  have a3 := mul_le8 (d := 8 - (y : Int) % 8) (v := 8 * v) (by omega) (by omega) (by omega) (by omega)
  have a4 := mul_le8 (d := (y : Int) % 8) (v := 8 * v) (by omega) (by omega) (by omega) (by omega)
  have s1 : (8 - (x : Int) % 8) * v + (x : Int) % 8 * v = 8 * v := by rw [← Int.add_mul]; congr 1; omega
  have s2 : (8 - (y : Int) % 8) * (8 * v) + (y : Int) % 8 * (8 * v) = 64 * v := by rw [← Int.add_mul, show 8 - (y : Int) % 8 + (y : Int) % 8 = 8 by omega]; omega
  intro e he
  simp only [rowsC, List.mem_cons, List.not_mem_nil, or_false] at he
  rcases he with rfl | rfl | rfl | rfl | rfl | rfl | rfl | rfl | rfl | rfl | rfl
  · refine row_var ?_
    simp only [Exec.valR, Exec.opV, kI 7 (by decide)]
    show some (Value.int .i64 (IntKind.i64.wrap ((BitVec.ofInt 64 (x : Int) &&& BitVec.ofInt 64 ((7 : Nat) : Int)).toNat : Nat))) = some (Value.int .i64 ((x : Int) % 8))
    rw [and_nat hx (by decide) (andI7 x), kI _ (by omega)]
    rfl
  · refine row_var ?_
    simp only [Exec.valR, Exec.opV, kI 7 (by decide)]
    show some (Value.int .i64 (IntKind.i64.wrap ((BitVec.ofInt 64 (y : Int) &&& BitVec.ofInt 64 ((7 : Nat) : Int)).toNat : Nat))) = some (Value.int .i64 ((y : Int) % 8))
    rw [and_nat hy (by decide) (andI7 y), kI _ (by omega)]
    rfl
  · exact row_var (by simp only [Exec.valR, Exec.opV, kI 8 (by decide)]; simp only [rhoC]; rw [w64 (by omega) (by omega)]; rfl)
  · exact row_var (by simp only [Exec.valR, Exec.opV]; simp only [rhoC]; rw [w64 (by omega) (by omega)])
  · exact row_var (by simp only [Exec.valR, Exec.opV]; simp only [rhoC]; rw [w64 (by omega) (by omega)])
  · exact row_var (by simp only [Exec.valR, Exec.opV]; simp only [rhoC]; rw [s1, w64 (by omega) (by omega)])
  · exact row_var (by simp only [Exec.valR, Exec.opV, kI 8 (by decide)]; simp only [rhoC]; rw [w64 (by omega) (by omega)]; rfl)
  · exact row_var (by simp only [Exec.valR, Exec.opV]; simp only [rhoC]; rw [w64 (by omega) (by omega)])
  · exact row_var (by simp only [Exec.valR, Exec.opV]; simp only [rhoC]; rw [w64 (by omega) (by omega)])
  · exact row_var (by simp only [Exec.valR, Exec.opV]; simp only [rhoC]; rw [s2, w64 (by omega) (by omega)])
  · exact row_var (by simp only [Exec.valR, Exec.opV, kI 32 (by decide)]; simp only [rhoC]; rw [w64 (by omega) (by omega)]; rfl)
theorem shsC_ok {x y v : Int} : ∀ e ∈ shsC, ShOk (rhoC x y v) e := by
  intro e he
  simp only [shsC, List.mem_cons, List.not_mem_nil, or_false] at he
  rcases he with rfl | rfl | rfl
  · exact sh_ok (d := 8) rfl (by decide) rfl
  · exact sh_ok (d := 8) rfl (by decide) rfl
  · exact sh_ok (d := 64) rfl (by decide) (show v = (64 * v + 32) / 64 by omega)
theorem specC_ok {ρ : Nat → Int} (h0 : 0 ≤ ρ 2) (h1 : ρ 2 ≤ 255) (hL : ∀ i ∈ [0, 1], 0 ≤ ρ i ∧ ρ i ≤ 4096) : Exec.SpecOk Tryz.prog ρ specC :=
  Exec.specAdd_ok (Exec.pl_one (at_law (by decide) (by decide) (by decide) (by decide)) (by kernel_rfl) (by kernel_rfl) (by kernel_rfl) (by decide) (by decide) (fun i hi => by rw [List.mem_singleton.1 hi]; exact ⟨h0, h1⟩))
    (Exec.specAdd_ok (Exec.ask_one (ask_law (by decide) (by decide) (by decide) (by decide) (by decide) (by decide)) (by kernel_rfl) (by decide) (by decide) (by decide) hL) Exec.spec0_ok)
set_option maxRecDepth 1000000
theorem chroma_run : chromaR = true := by kernel_rfl
theorem chroma_law : Exec.EvenLaw Tryz.prog 126 8 8 4 := by
  refine Exec.even_of_run (e := 3) (u := 5) (by kernel_rfl) (by kernel_rfl) (by kernel_rfl) (by decide) (by decide) (by decide) (by decide) fun x y v hx hy v0 v1 => ?_
  refine ⟨rhoC x y v, _, runQ_ok (Exec.hyS_ok (rowsC_ok hx hy v0 v1) (fun e he => by cases he) shsC_ok (fun e he => by cases he)) (specC_ok v0 v1 (fun i hi => ?_)), rfl, rfl, rfl, chroma_run⟩
  simp only [List.mem_cons, List.not_mem_nil, or_false] at hi
  rcases hi with rfl | rfl
  · show 0 ≤ (x : Int) ∧ (x : Int) ≤ 4096
    omega
  · show 0 ≤ (y : Int) ∧ (y : Int) ≤ 4096
    omega
end Go.Proofs.YtcmehedjdfopdaaGreat
