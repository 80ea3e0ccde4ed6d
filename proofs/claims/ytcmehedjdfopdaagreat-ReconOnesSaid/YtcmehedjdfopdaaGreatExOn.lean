/-
  ReconOnes: what is known of the sample, the weight, the offset and what comes of them.
-/
import Derived.Test.YtcmehedjdfopdaaGreatExIg
namespace Go.Proofs.YtcmehedjdfopdaaGreat
open Go Go.RowKit
open Go.Exec (Row RowOk CvRow CvOk ShRow ShOk)
def rhoO (a b c g x s f m1 m2 h d : Int) : Nat → Int
  | 0 => a | 1 => b | 2 => c | 3 => g | 10 => x | 11 => s | 12 => f | 13 => m1 | 14 => m2 | 15 => 32 + m1 | 16 => 32 + m2
  | 21 => x * s | 22 => x * s + h | 23 => (x * s + h) / d | 24 => (x * s + h) / d + f | 25 => clipR ((x * s + h) / d + f) | _ => 0
theorem kom256 : IntKind.i64.wrap ((18446744073709551360 : Nat) : Int) = -256 := by rw [IntKind.wrap_i64]; rfl
theorem kom128 : IntKind.i64.wrap ((18446744073709551488 : Nat) : Int) = -128 := by rw [IntKind.wrap_i64]; rfl
theorem ko0 : IntKind.i64.wrap ((0 : Nat) : Int) = 0 := by rw [IntKind.wrap_i64]; rfl
theorem ko31 : IntKind.i64.wrap ((31 : Nat) : Int) = 31 := by rw [IntKind.wrap_i64]; rfl
theorem ko32 : IntKind.i64.wrap ((32 : Nat) : Int) = 32 := by rw [IntKind.wrap_i64]; rfl
theorem ko63 : IntKind.i64.wrap ((63 : Nat) : Int) = 63 := by rw [IntKind.wrap_i64]; rfl
theorem ko127 : IntKind.i64.wrap ((127 : Nat) : Int) = 127 := by rw [IntKind.wrap_i64]; rfl
theorem ko255 : IntKind.i64.wrap ((255 : Nat) : Int) = 255 := by rw [IntKind.wrap_i64]; rfl
theorem ko256 : IntKind.i64.wrap ((256 : Nat) : Int) = 256 := by rw [IntKind.wrap_i64]; rfl
noncomputable def rowsO : List Row := [⟨.and, true, 0, false, 255, vrS 10⟩, ⟨.and, true, 1, false, 127, vrS 11⟩, ⟨.and, true, 2, false, 63, vrS 12⟩, ⟨.and, true, 0, false, 31, vrS 13⟩, ⟨.and, true, 1, false, 31, vrS 14⟩, ⟨.geq, true, 10, false, 0, boS true⟩, ⟨.leq, true, 10, false, 255, boS true⟩, ⟨.geq, true, 11, false, 18446744073709551488, boS true⟩, ⟨.leq, true, 11, false, 127, boS true⟩, ⟨.geq, true, 12, false, 18446744073709551488, boS true⟩, ⟨.leq, true, 12, false, 127, boS true⟩, ⟨.geq, true, 13, false, 18446744073709551360, boS true⟩, ⟨.leq, true, 13, false, 256, boS true⟩, ⟨.geq, true, 14, false, 18446744073709551360, boS true⟩, ⟨.leq, true, 14, false, 256, boS true⟩, ⟨.add, false, 0, true, 13, vrS 13⟩, ⟨.add, false, 32, true, 13, vrS 15⟩, ⟨.add, false, 0, true, 14, vrS 14⟩, ⟨.add, false, 32, true, 14, vrS 16⟩, ⟨.mul, true, 10, true, 11, vrS 21⟩, ⟨.add, true, 23, true, 12, vrS 24⟩]
noncomputable def rowsOg (g h : Nat) : List Row := [⟨.and, true, 3, false, 7, inS g⟩, ⟨.add, true, 21, false, h, vrS 22⟩]
noncomputable def shsO (g : Nat) : List ShRow := [⟨false, 22, g, vrS 23⟩]
noncomputable def cvsO : List CvRow := [⟨.i64, .u8, 10, vuS 10⟩, ⟨.u8, .i64, 10, vrS 10⟩, ⟨.i64, .u8, 25, vuS 25⟩, ⟨.u8, .i64, 25, vrS 25⟩]
noncomputable def specO : Nat → Option Exec.FnC := Exec.specAdd 125 (Exec.evenC 3 5 16 16 8 [10] [13, 14, 15, 16]) (Exec.specAdd 126 (Exec.evenC 3 5 8 8 4 [10] [13, 14, 15, 16]) (Exec.specAdd 19 (clipC [(24, vrS 25)]) specR))
noncomputable def oneRun (g h : Nat) : Bool := Exec.okTrue (runQ (Exec.hyS (rowsO ++ rowsOg g h) cvsO (shsO g) []) specO 5 [Exec.mkVar 0, Exec.mkVar 1, Exec.mkVar 2, Exec.mkVar 3] startR)
section
variable {a b c g x s f m1 m2 h d : Int}
theorem rowsO_ok (hx : x = (Exec.bitsOf a 255 : Nat)) (hs : s = (Exec.bitsOf b 127 : Nat)) (hf : f = (Exec.bitsOf c 63 : Nat)) (h1 : m1 = (Exec.bitsOf a 31 : Nat)) (h2 : m2 = (Exec.bitsOf b 31 : Nat)) (hm : 0 ≤ x * s) (hm2 : x * s ≤ 40000) (hq : 0 ≤ (x * s + h) / d) (hq2 : (x * s + h) / d ≤ 50000) : ∀ e ∈ rowsO, RowOk (rhoO a b c g x s f m1 m2 h d) e := by
  have b1 := Exec.bitsOf_le a (c := 255) (by decide)
  have b2 := Exec.bitsOf_le b (c := 127) (by decide)
  have b3 := Exec.bitsOf_le c (c := 63) (by decide)
  have b4 := Exec.bitsOf_le a (c := 31) (by decide)
  have b5 := Exec.bitsOf_le b (c := 31) (by decide)
  have c1 : 0 ≤ x ∧ x ≤ 255 := by omega
  have c2 : 0 ≤ s ∧ s ≤ 127 := by omega
  have c3 : 0 ≤ f ∧ f ≤ 63 := by omega
  have c4 : 0 ≤ m1 ∧ m1 ≤ 31 := by omega
  have c5 : 0 ≤ m2 ∧ m2 ≤ 31 := by omega
  clear b1 b2 b3 b4 b5
  intro e he
  simp only [rowsO, List.mem_cons, List.not_mem_nil, or_false] at he
  rcases he with rfl | rfl | rfl | rfl | rfl | rfl | rfl | rfl | rfl | rfl | rfl | rfl | rfl | rfl | rfl | rfl | rfl | rfl | rfl | rfl | rfl
  · exact row_var (by simp only [Exec.valR, Exec.opV, ko255]; exact and_val (by decide) hx)
  · exact row_var (by simp only [Exec.valR, Exec.opV, ko127]; exact and_val (by decide) hs)
  · exact row_var (by simp only [Exec.valR, Exec.opV, ko63]; exact and_val (by decide) hf)
  · exact row_var (by simp only [Exec.valR, Exec.opV, ko31]; exact and_val (by decide) h1)
  · exact row_var (by simp only [Exec.valR, Exec.opV, ko31]; exact and_val (by decide) h2)
  · exact row_bool (by simp only [Exec.valR, Exec.opV, ko0]; simp [rhoO]; try omega)
  · exact row_bool (by simp only [Exec.valR, Exec.opV, ko255]; simp [rhoO]; try omega)
  · exact row_bool (by simp only [Exec.valR, Exec.opV, kom128]; simp [rhoO]; try omega)
  · exact row_bool (by simp only [Exec.valR, Exec.opV, ko127]; simp [rhoO]; try omega)
  · exact row_bool (by simp only [Exec.valR, Exec.opV, kom128]; simp [rhoO]; try omega)
  · exact row_bool (by simp only [Exec.valR, Exec.opV, ko127]; simp [rhoO]; try omega)
  · exact row_bool (by simp only [Exec.valR, Exec.opV, kom256]; simp [rhoO]; try omega)
  · exact row_bool (by simp only [Exec.valR, Exec.opV, ko256]; simp [rhoO]; try omega)
  · exact row_bool (by simp only [Exec.valR, Exec.opV, kom256]; simp [rhoO]; try omega)
  · exact row_bool (by simp only [Exec.valR, Exec.opV, ko256]; simp [rhoO]; try omega)
  · exact row_var (by simp only [Exec.valR, Exec.opV, ko0]; simp only [rhoO]; rw [Int.zero_add, w64 (by omega) (by omega)])
  · exact row_var (by simp only [Exec.valR, Exec.opV, ko32]; simp only [rhoO]; rw [w64 (by omega) (by omega)])
  · exact row_var (by simp only [Exec.valR, Exec.opV, ko0]; simp only [rhoO]; rw [Int.zero_add, w64 (by omega) (by omega)])
  · exact row_var (by simp only [Exec.valR, Exec.opV, ko32]; simp only [rhoO]; rw [w64 (by omega) (by omega)])
  · exact row_var (by simp only [Exec.valR, Exec.opV]; simp only [rhoO]; rw [w64 (by omega) (by omega)])
  · exact row_var (by simp only [Exec.valR, Exec.opV]; simp only [rhoO]; rw [w64 (by omega) (by omega)])
theorem rowsOg_ok {gn hn : Nat} (hg : (gn : Int) = (Exec.bitsOf g 7 : Nat)) (hh : h = (hn : Int)) (hh2 : hn ≤ 64) (hm : 0 ≤ x * s) (hm2 : x * s ≤ 40000) : ∀ e ∈ rowsOg gn hn, RowOk (rhoO a b c g x s f m1 m2 h d) e := by
  have b1 := Exec.bitsOf_le g (c := 7) (by decide)
  intro e he
  simp only [rowsOg, List.mem_cons, List.not_mem_nil, or_false] at he
  rcases he with rfl | rfl
  · refine row_int (by omega) ?_
    simp only [Exec.valR, Exec.opV, kI 7 (by decide)]
    rw [show IntKind.i64.wrap (gn : Int) = (gn : Int) from kI gn (by omega)]
    exact and_val (by decide) hg
  · exact row_var (by simp only [Exec.valR, Exec.opV, kI hn (by omega)]; simp only [rhoO]; rw [← hh, w64 (by omega) (by omega)])
theorem shsO_ok {gn : Nat} (hd : ((2 ^ min gn 64 : Nat) : Int) = d) : ∀ e ∈ shsO gn, ShOk (rhoO a b c g x s f m1 m2 h d) e := by
  intro e he
  rw [List.mem_singleton.1 he]
  exact sh_ok (d := 2 ^ min gn 64) rfl (Nat.pos_of_ne_zero (by simp)) (by rw [hd]; rfl)
theorem cvsO_ok (x0 : 0 ≤ x) (x1 : x ≤ 255) : ∀ e ∈ cvsO, CvOk (rhoO a b c g x s f m1 m2 h d) e := by
  intro e he
  simp only [cvsO, List.mem_cons, List.not_mem_nil, or_false] at he
  rcases he with rfl | rfl | rfl | rfl
  · exact cv_u8 rfl x0 x1
  · exact cv_i64 rfl x0 x1
  · exact cv_u8 rfl (clipR_rng _).1 (clipR_rng _).2
  · exact cv_i64 rfl (clipR_rng _).1 (clipR_rng _).2
theorem specO_ok (x0 : 0 ≤ x) (x1 : x ≤ 255) (c4 : 0 ≤ m1 ∧ m1 ≤ 31) (c5 : 0 ≤ m2 ∧ m2 ≤ 31) (hq : -1048576 ≤ (x * s + h) / d + f) (hq2 : (x * s + h) / d + f ≤ 1048576) : Exec.SpecOk Tryz.prog (rhoO a b c g x s f m1 m2 h d) specO := by
  have hJ : ∀ i ∈ [10], 0 ≤ rhoO a b c g x s f m1 m2 h d i ∧ rhoO a b c g x s f m1 m2 h d i ≤ 255 := fun i hi => by rw [List.mem_singleton.1 hi]; exact ⟨x0, x1⟩
  have hL : ∀ i ∈ [13, 14, 15, 16], 0 ≤ rhoO a b c g x s f m1 m2 h d i ∧ rhoO a b c g x s f m1 m2 h d i ≤ 4096 := fun i hi => by
    simp only [List.mem_cons, List.not_mem_nil, or_false] at hi
    rcases hi with rfl | rfl | rfl | rfl
    · show 0 ≤ m1 ∧ m1 ≤ 4096
      omega
    · show 0 ≤ m2 ∧ m2 ≤ 4096
      omega
    · show 0 ≤ 32 + m1 ∧ 32 + m1 ≤ 4096
      omega
    · show 0 ≤ 32 + m2 ∧ 32 + m2 ≤ 4096
      omega
  exact Exec.specAdd_ok (Exec.even_one luma_law (by kernel_rfl) (by kernel_rfl) (by kernel_rfl) (by decide) (by decide) (by decide) hJ hL)
    (Exec.specAdd_ok (Exec.even_one chroma_law (by kernel_rfl) (by kernel_rfl) (by kernel_rfl) (by decide) (by decide) (by decide) hJ hL)
      (Exec.specAdd_ok (clipC_one hq hq2 rfl) (specR_ok _)))
end
end Go.Proofs.YtcmehedjdfopdaaGreat
