/-
  ReconMixes: what is known of the samples, the weights and what comes of them.
-/
import Derived.Test.YtcmehedjdfopdaaGreatExRP
import Derived.Test.YtcmehedjdfopdaaGreatExG
namespace Go.Proofs.YtcmehedjdfopdaaGreat
open Go.RowKit
open Go.Exec (Row RowOk CvRow CvOk ShRow ShOk)

noncomputable def boS (b : Bool) : Exec.Sc := ⟨1, cond b 1 0, 0, 0, 0, [], []⟩
noncomputable def vrS (j : Nat) : Exec.Sc := ⟨24, j, 19, 0, 0, [], []⟩
noncomputable def vuS (j : Nat) : Exec.Sc := ⟨24, j, 20, 0, 0, [], []⟩
noncomputable def inS (n : Nat) : Exec.Sc := ⟨19, n, 0, 0, 0, [], []⟩
theorem w64 {n : Int} (h0 : -9223372036854775808 ≤ n) (h1 : n < 9223372036854775808) : IntKind.i64.wrap n = n := by rw [IntKind.wrap_i64]; omega
theorem SR.bo {η : Exec.Nv} (b : Bool) : Exec.SR η (boS b) (.bool b) := .bool b rfl rfl
theorem row_var {ρ : Nat → Int} {op : Go.BinOp} {v1 v2 : Bool} {a1 a2 j : Nat} (h : Exec.opV op (Exec.valR ρ v1 a1) (Exec.valR ρ v2 a2) = some (.int .i64 (ρ j))) : RowOk ρ ⟨op, v1, a1, v2, a2, vrS j⟩ :=
  ⟨_, h, fun η hρ => by rw [← hρ]; exact .var (s := vrS j) .i64 rfl rfl⟩
theorem row_bool {ρ : Nat → Int} {op : Go.BinOp} {v1 v2 : Bool} {a1 a2 : Nat} {b : Bool} (h : Exec.opV op (Exec.valR ρ v1 a1) (Exec.valR ρ v2 a2) = some (.bool b)) : RowOk ρ ⟨op, v1, a1, v2, a2, boS b⟩ := ⟨_, h, fun _ _ => SR.bo b⟩
theorem row_int {ρ : Nat → Int} {op : Go.BinOp} {v1 v2 : Bool} {a1 a2 n : Nat} (hn : n < 18446744073709551616) (h : Exec.opV op (Exec.valR ρ v1 a1) (Exec.valR ρ v2 a2) = some (.int .i64 (IntKind.i64.wrap n))) : RowOk ρ ⟨op, v1, a1, v2, a2, inS n⟩ :=
  ⟨_, h, fun _ _ => .int (s := inS n) .i64 rfl hn⟩
/-- the variables -/
def rhoX (a b way n x y : Int) (w : Nat → Int) (s0 s1 o0 o1 off p0 p1 : Int) : Nat → Int
  | 0 => a | 1 => b | 2 => way | 3 => x | 4 => y | 5 => n
  | 6 => w 0 | 7 => w 1 | 8 => w 2 | 9 => w 3
  | 10 => s0 | 11 => s1 | 12 => o0 | 13 => o1
  | 14 => x + y | 15 => x + y + 1 | 16 => (x + y + 1) / 2
  | 20 => x | 21 => y | 22 => (x + y + 1) / 2
  | 23 => o0 + o1 | 24 => o0 + o1 + 1 | 25 => off
  | 26 => p0 | 27 => p1 | 28 => p0 + p1 | 29 => p0 + p1 + 32 | 30 => (p0 + p1 + 32) / 64 | 31 => (p0 + p1 + 32) / 64 + off
  | 32 => clipR ((p0 + p1 + 32) / 64 + off) | 33 => clipR ((p0 + p1 + 32) / 64 + off)
  | 34 => way % 18446744073709551616
  | 40 => 8 * x | 41 => 8 * (8 * x) | 42 => 8 * (8 * x) + 32
  | 43 => 8 * y | 44 => 8 * (8 * y) | 45 => 8 * (8 * y) + 32
  | _ => 0
section
variable {a b way n x y : Int} {w : Nat → Int} {s0 s1 o0 o1 off p0 p1 : Int}
theorem km256 : IntKind.i64.wrap ((18446744073709551360 : Nat) : Int) = -256 := by rw [IntKind.wrap_i64]; rfl
theorem km128 : IntKind.i64.wrap ((18446744073709551488 : Nat) : Int) = -128 := by rw [IntKind.wrap_i64]; rfl
theorem km1 : IntKind.i64.wrap ((18446744073709551615 : Nat) : Int) = -1 := by rw [IntKind.wrap_i64]; rfl
theorem k0 : IntKind.i64.wrap ((0 : Nat) : Int) = 0 := by rw [IntKind.wrap_i64]; rfl
theorem k1 : IntKind.i64.wrap ((1 : Nat) : Int) = 1 := by rw [IntKind.wrap_i64]; rfl
theorem k2 : IntKind.i64.wrap ((2 : Nat) : Int) = 2 := by rw [IntKind.wrap_i64]; rfl
theorem k3 : IntKind.i64.wrap ((3 : Nat) : Int) = 3 := by rw [IntKind.wrap_i64]; rfl
theorem k8 : IntKind.i64.wrap ((8 : Nat) : Int) = 8 := by rw [IntKind.wrap_i64]; rfl
theorem k15 : IntKind.i64.wrap ((15 : Nat) : Int) = 15 := by rw [IntKind.wrap_i64]; rfl
theorem k20 : IntKind.i64.wrap ((20 : Nat) : Int) = 20 := by rw [IntKind.wrap_i64]; rfl
theorem k24 : IntKind.i64.wrap ((24 : Nat) : Int) = 24 := by rw [IntKind.wrap_i64]; rfl
theorem k32 : IntKind.i64.wrap ((32 : Nat) : Int) = 32 := by rw [IntKind.wrap_i64]; rfl
theorem k40 : IntKind.i64.wrap ((40 : Nat) : Int) = 40 := by rw [IntKind.wrap_i64]; rfl
theorem k44 : IntKind.i64.wrap ((44 : Nat) : Int) = 44 := by rw [IntKind.wrap_i64]; rfl
theorem k63 : IntKind.i64.wrap ((63 : Nat) : Int) = 63 := by rw [IntKind.wrap_i64]; rfl
theorem k127 : IntKind.i64.wrap ((127 : Nat) : Int) = 127 := by rw [IntKind.wrap_i64]; rfl
theorem k191 : IntKind.i64.wrap ((191 : Nat) : Int) = 191 := by rw [IntKind.wrap_i64]; rfl
theorem k255 : IntKind.i64.wrap ((255 : Nat) : Int) = 255 := by rw [IntKind.wrap_i64]; rfl
theorem and_val {v : Int} {c : Nat} {r : Int} (hc : c < 9223372036854775808) (h : r = (Exec.bitsOf v c : Nat)) : some (Value.int .i64 (IntKind.i64.wrap ((BitVec.ofInt 64 v &&& BitVec.ofInt 64 (c : Int)).toNat : Nat))) = some (.int .i64 r) := by
  have e : BitVec.ofInt 64 (c : Int) = BitVec.ofNat 64 c := by simp
  have hb := Exec.bitsOf_le v (c := c) (by omega)
  rw [e, h]
  show some (Value.int .i64 (IntKind.i64.wrap ((Exec.bitsOf v c : Nat) : Int))) = _
  rw [w64 (by omega) (by omega)]
noncomputable def rowsX : List Row := [⟨.and, true, 0, false, 255, vrS 3⟩, ⟨.and, true, 1, false, 255, vrS 4⟩, ⟨.add, true, 3, true, 4, vrS 14⟩, ⟨.add, true, 14, false, 1, vrS 15⟩, ⟨.quo, true, 15, false, 2, vrS 16⟩, ⟨.geq, true, 3, false, 0, boS true⟩, ⟨.leq, true, 3, false, 255, boS true⟩, ⟨.geq, true, 4, false, 0, boS true⟩, ⟨.leq, true, 4, false, 255, boS true⟩, ⟨.mul, false, 8, true, 3, vrS 40⟩, ⟨.mul, false, 0, true, 3, inS 0⟩, ⟨.add, true, 40, false, 0, vrS 40⟩, ⟨.mul, false, 8, true, 40, vrS 41⟩, ⟨.mul, false, 0, true, 40, inS 0⟩, ⟨.add, true, 41, false, 0, vrS 41⟩, ⟨.add, true, 41, false, 32, vrS 42⟩, ⟨.mul, false, 8, true, 4, vrS 43⟩, ⟨.mul, false, 0, true, 4, inS 0⟩, ⟨.add, true, 43, false, 0, vrS 43⟩, ⟨.mul, false, 8, true, 43, vrS 44⟩, ⟨.mul, false, 0, true, 43, inS 0⟩, ⟨.add, true, 44, false, 0, vrS 44⟩, ⟨.add, true, 44, false, 32, vrS 45⟩]
theorem rowsX_ok (hx : x = (Exec.bitsOf a 255 : Nat)) (hy : y = (Exec.bitsOf b 255 : Nat)) (x1 : x ≤ 255) (y1 : y ≤ 255) : ∀ e ∈ rowsX, RowOk (rhoX a b way n x y w s0 s1 o0 o1 off p0 p1) e := by
  intro e he
  simp only [rowsX, List.mem_cons, List.not_mem_nil, or_false] at he
  have x0 : 0 ≤ x := by omega
  have y0 : 0 ≤ y := by omega
  rcases he with rfl | rfl | rfl | rfl | rfl | rfl | rfl | rfl | rfl | rfl | rfl | rfl | rfl | rfl | rfl | rfl | rfl | rfl | rfl | rfl | rfl | rfl | rfl
  · exact row_var (by simp only [Exec.valR, Exec.opV, k255]; exact and_val (by decide) hx)
  · exact row_var (by simp only [Exec.valR, Exec.opV, k255]; exact and_val (by decide) hy)
  · exact row_var (by simp only [Exec.valR, Exec.opV]; simp only [rhoX]; rw [w64 (by omega) (by omega)])
  · exact row_var (by simp only [Exec.valR, Exec.opV, k1]; simp only [rhoX]; rw [w64 (by omega) (by omega)])
  · exact row_var (by simp only [Exec.valR, Exec.opV, k2]; rw [if_neg (by decide)]; simp only [rhoX]; rw [Int.tdiv_eq_ediv_of_nonneg (by omega), w64 (by omega) (by omega)])
  · exact row_bool (by simp only [Exec.valR, Exec.opV, k0]; simp [rhoX]; try omega)
  · exact row_bool (by simp only [Exec.valR, Exec.opV, k255]; simp [rhoX]; try omega)
  · exact row_bool (by simp only [Exec.valR, Exec.opV, k0]; simp [rhoX]; try omega)
  · exact row_bool (by simp only [Exec.valR, Exec.opV, k255]; simp [rhoX]; try omega)
  · exact row_var (by simp only [Exec.valR, Exec.opV, k8]; simp only [rhoX]; rw [w64 (by omega) (by omega)])
  · exact row_int (by decide) (by simp only [Exec.valR, Exec.opV, k0]; simp [rhoX]; rfl)
  · exact row_var (by simp only [Exec.valR, Exec.opV, k0]; simp only [rhoX]; rw [Int.add_zero, w64 (by omega) (by omega)])
  · exact row_var (by simp only [Exec.valR, Exec.opV, k8]; simp only [rhoX]; rw [w64 (by omega) (by omega)])
  · exact row_int (by decide) (by simp only [Exec.valR, Exec.opV, k0]; simp [rhoX]; rfl)
  · exact row_var (by simp only [Exec.valR, Exec.opV, k0]; simp only [rhoX]; rw [Int.add_zero, w64 (by omega) (by omega)])
  · exact row_var (by simp only [Exec.valR, Exec.opV, k32]; simp only [rhoX]; rw [w64 (by omega) (by omega)])
  · exact row_var (by simp only [Exec.valR, Exec.opV, k8]; simp only [rhoX]; rw [w64 (by omega) (by omega)])
  · exact row_int (by decide) (by simp only [Exec.valR, Exec.opV, k0]; simp [rhoX]; rfl)
  · exact row_var (by simp only [Exec.valR, Exec.opV, k0]; simp only [rhoX]; rw [Int.add_zero, w64 (by omega) (by omega)])
  · exact row_var (by simp only [Exec.valR, Exec.opV, k8]; simp only [rhoX]; rw [w64 (by omega) (by omega)])
  · exact row_int (by decide) (by simp only [Exec.valR, Exec.opV, k0]; simp [rhoX]; rfl)
  · exact row_var (by simp only [Exec.valR, Exec.opV, k0]; simp only [rhoX]; rw [Int.add_zero, w64 (by omega) (by omega)])
  · exact row_var (by simp only [Exec.valR, Exec.opV, k32]; simp only [rhoX]; rw [w64 (by omega) (by omega)])
noncomputable def rowsL : List Row := [⟨.gtr, true, 5, false, 3, boS false⟩]
theorem rowsL_ok (hn : n ≤ 3) : ∀ e ∈ rowsL, RowOk (rhoX a b way n x y w s0 s1 o0 o1 off p0 p1) e := by
  intro e he
  simp only [rowsL, List.mem_cons, List.not_mem_nil, or_false] at he
  subst he
  · exact row_bool (by simp only [Exec.valR, Exec.opV, k3]; simp [rhoX]; try omega)
noncomputable def rowsG : List Row := [⟨.gtr, true, 5, false, 3, boS true⟩, ⟨.and, true, 6, false, 63, vrS 10⟩, ⟨.and, true, 7, false, 63, vrS 11⟩, ⟨.and, true, 8, false, 15, vrS 12⟩, ⟨.and, true, 9, false, 15, vrS 13⟩]
theorem rowsG_ok (hn : 3 < n) (h0 : s0 = (Exec.bitsOf (w 0) 63 : Nat)) (h1 : s1 = (Exec.bitsOf (w 1) 63 : Nat)) (h2 : o0 = (Exec.bitsOf (w 2) 15 : Nat)) (h3 : o1 = (Exec.bitsOf (w 3) 15 : Nat)) : ∀ e ∈ rowsG, RowOk (rhoX a b way n x y w s0 s1 o0 o1 off p0 p1) e := by
  intro e he
  simp only [rowsG, List.mem_cons, List.not_mem_nil, or_false] at he
  rcases he with rfl | rfl | rfl | rfl | rfl
  · exact row_bool (by simp only [Exec.valR, Exec.opV, k3]; simp [rhoX]; try omega)
  · exact row_var (by simp only [Exec.valR, Exec.opV, k63]; exact and_val (by decide) h0)
  · exact row_var (by simp only [Exec.valR, Exec.opV, k63]; exact and_val (by decide) h1)
  · exact row_var (by simp only [Exec.valR, Exec.opV, k15]; exact and_val (by decide) h2)
  · exact row_var (by simp only [Exec.valR, Exec.opV, k15]; exact and_val (by decide) h3)
noncomputable def rowsW : List Row := [⟨.add, true, 26, true, 27, vrS 28⟩, ⟨.add, true, 28, false, 32, vrS 29⟩]
theorem rowsW_ok (b0 : -20000 ≤ p0) (b1 : p0 ≤ 20000) (b2 : -20000 ≤ p1) (b3 : p1 ≤ 20000) : ∀ e ∈ rowsW, RowOk (rhoX a b way n x y w s0 s1 o0 o1 off p0 p1) e := by
  intro e he
  simp only [rowsW, List.mem_cons, List.not_mem_nil, or_false] at he
  rcases he with rfl | rfl
  · exact row_var (by simp only [Exec.valR, Exec.opV]; simp only [rhoX]; rw [w64 (by omega) (by omega)])
  · exact row_var (by simp only [Exec.valR, Exec.opV, k32]; simp only [rhoX]; rw [w64 (by omega) (by omega)])
noncomputable def rows4 : List Row := [⟨.geq, true, 10, false, 18446744073709551488, boS true⟩, ⟨.leq, true, 10, false, 127, boS true⟩, ⟨.leq, true, 10, false, 191, boS true⟩, ⟨.geq, true, 11, false, 18446744073709551488, boS true⟩, ⟨.leq, true, 11, false, 127, boS true⟩, ⟨.leq, true, 11, false, 191, boS true⟩, ⟨.geq, true, 12, false, 18446744073709551488, boS true⟩, ⟨.leq, true, 12, false, 127, boS true⟩, ⟨.geq, true, 13, false, 18446744073709551488, boS true⟩, ⟨.leq, true, 13, false, 127, boS true⟩, ⟨.add, true, 12, true, 13, vrS 23⟩, ⟨.add, true, 23, false, 1, vrS 24⟩, ⟨.geq, true, 25, false, 18446744073709551360, boS true⟩, ⟨.leq, true, 25, false, 255, boS true⟩, ⟨.mul, true, 3, true, 10, vrS 26⟩, ⟨.mul, true, 4, true, 11, vrS 27⟩, ⟨.add, true, 30, true, 25, vrS 31⟩]
theorem rows4_ok (b0 : -20000 ≤ p0) (b1 : p0 ≤ 20000) (b2 : -20000 ≤ p1) (b3 : p1 ≤ 20000) (c0 : 0 ≤ s0) (c1 : s0 ≤ 63) (c2 : 0 ≤ s1) (c3 : s1 ≤ 63) (d0 : 0 ≤ o0) (d1 : o0 ≤ 15) (d2 : 0 ≤ o1) (d3 : o1 ≤ 15) (hf : off = (o0 + o1 + 1) / 2) (hp0 : p0 = x * s0) (hp1 : p1 = y * s1) : ∀ e ∈ rows4, RowOk (rhoX a b way n x y w s0 s1 o0 o1 off p0 p1) e := by
  intro e he
  simp only [rows4, List.mem_cons, List.not_mem_nil, or_false] at he
  rcases he with rfl | rfl | rfl | rfl | rfl | rfl | rfl | rfl | rfl | rfl | rfl | rfl | rfl | rfl | rfl | rfl | rfl
  · exact row_bool (by simp only [Exec.valR, Exec.opV, km128]; simp [rhoX]; try omega)
  · exact row_bool (by simp only [Exec.valR, Exec.opV, k127]; simp [rhoX]; try omega)
  · exact row_bool (by simp only [Exec.valR, Exec.opV, k191]; simp [rhoX]; try omega)
  · exact row_bool (by simp only [Exec.valR, Exec.opV, km128]; simp [rhoX]; try omega)
  · exact row_bool (by simp only [Exec.valR, Exec.opV, k127]; simp [rhoX]; try omega)
  · exact row_bool (by simp only [Exec.valR, Exec.opV, k191]; simp [rhoX]; try omega)
  · exact row_bool (by simp only [Exec.valR, Exec.opV, km128]; simp [rhoX]; try omega)
  · exact row_bool (by simp only [Exec.valR, Exec.opV, k127]; simp [rhoX]; try omega)
  · exact row_bool (by simp only [Exec.valR, Exec.opV, km128]; simp [rhoX]; try omega)
  · exact row_bool (by simp only [Exec.valR, Exec.opV, k127]; simp [rhoX]; try omega)
  · exact row_var (by simp only [Exec.valR, Exec.opV]; simp only [rhoX]; rw [w64 (by omega) (by omega)])
  · exact row_var (by simp only [Exec.valR, Exec.opV, k1]; simp only [rhoX]; rw [w64 (by omega) (by omega)])
  · exact row_bool (by simp only [Exec.valR, Exec.opV, km256]; simp [rhoX]; try omega)
  · exact row_bool (by simp only [Exec.valR, Exec.opV, k255]; simp [rhoX]; try omega)
  · exact row_var (by simp only [Exec.valR, Exec.opV]; simp only [rhoX]; rw [← hp0, w64 (by omega) (by omega)])
  · exact row_var (by simp only [Exec.valR, Exec.opV]; simp only [rhoX]; rw [← hp1, w64 (by omega) (by omega)])
  · exact row_var (by simp only [Exec.valR, Exec.opV]; simp only [rhoX]; rw [w64 (by omega) (by omega)])
noncomputable def rows3 : List Row := [⟨.mul, true, 3, false, 20, vrS 26⟩, ⟨.mul, true, 4, false, 44, vrS 27⟩, ⟨.add, true, 30, false, 18446744073709551615, vrS 31⟩]
theorem rows3_ok (b0 : -20000 ≤ p0) (b1 : p0 ≤ 20000) (b2 : -20000 ≤ p1) (b3 : p1 ≤ 20000) (hf : off = -1) (hp0 : p0 = x * 20) (hp1 : p1 = y * 44) : ∀ e ∈ rows3, RowOk (rhoX a b way n x y w s0 s1 o0 o1 off p0 p1) e := by
  intro e he
  simp only [rows3, List.mem_cons, List.not_mem_nil, or_false] at he
  rcases he with rfl | rfl | rfl
  · exact row_var (by simp only [Exec.valR, Exec.opV, k20]; simp only [rhoX]; rw [← hp0, w64 (by omega) (by omega)])
  · exact row_var (by simp only [Exec.valR, Exec.opV, k44]; simp only [rhoX]; rw [← hp1, w64 (by omega) (by omega)])
  · exact row_var (by simp only [Exec.valR, Exec.opV, km1]; simp only [rhoX]; rw [w64 (by omega) (by omega)]; rw [hf])
noncomputable def rows2 : List Row := [⟨.mul, true, 3, false, 40, vrS 26⟩, ⟨.mul, true, 4, false, 24, vrS 27⟩, ⟨.add, true, 30, false, 0, vrS 30⟩]
theorem rows2_ok (b0 : -20000 ≤ p0) (b1 : p0 ≤ 20000) (b2 : -20000 ≤ p1) (b3 : p1 ≤ 20000) (_hf : off = 0) (hp0 : p0 = x * 40) (hp1 : p1 = y * 24) : ∀ e ∈ rows2, RowOk (rhoX a b way n x y w s0 s1 o0 o1 off p0 p1) e := by
  intro e he
  simp only [rows2, List.mem_cons, List.not_mem_nil, or_false] at he
  rcases he with rfl | rfl | rfl
  · exact row_var (by simp only [Exec.valR, Exec.opV, k40]; simp only [rhoX]; rw [← hp0, w64 (by omega) (by omega)])
  · exact row_var (by simp only [Exec.valR, Exec.opV, k24]; simp only [rhoX]; rw [← hp1, w64 (by omega) (by omega)])
  · exact row_var (by simp only [Exec.valR, Exec.opV, k0]; simp only [rhoX]; rw [Int.add_zero, w64 (by omega) (by omega)])
noncomputable def cvsX : List CvRow := [⟨.i64, .u8, 3, vuS 20⟩, ⟨.i64, .u8, 4, vuS 21⟩, ⟨.u8, .i64, 20, vrS 3⟩, ⟨.u8, .i64, 21, vrS 4⟩, ⟨.i64, .u8, 16, vuS 22⟩, ⟨.i64, .u8, 32, vuS 33⟩, ⟨.i64, .u64, 2, ⟨24, 34, 23, 0, 0, [], []⟩⟩]
theorem clipR_rng (v : Int) : 0 ≤ clipR v ∧ clipR v ≤ 255 := by unfold clipR; omega
theorem cv_u8 {ρ : Nat → Int} {i j : Nat} (h : ρ j = ρ i) (h0 : 0 ≤ ρ i) (h1 : ρ i ≤ 255) : CvOk ρ ⟨.i64, .u8, i, vuS j⟩ := fun η hρ => by
  show Exec.SR η (vuS j) (.int .u8 (IntKind.u8.wrap (ρ i)))
  rw [IntKind.wrap_u8, Int.emod_eq_of_lt h0 (by omega), ← h, ← hρ]
  exact .var (s := vuS j) .u8 rfl rfl
theorem cv_i64 {ρ : Nat → Int} {i j : Nat} (h : ρ j = ρ i) (h0 : 0 ≤ ρ i) (h1 : ρ i ≤ 255) : CvOk ρ ⟨.u8, .i64, i, vrS j⟩ := fun η hρ => by
  show Exec.SR η (vrS j) (.int .i64 (IntKind.i64.wrap (ρ i)))
  rw [w64 (by omega) (by omega), ← h, ← hρ]
  exact .var (s := vrS j) .i64 rfl rfl
theorem cvsX_ok (x0 : 0 ≤ x) (x1 : x ≤ 255) (y0 : 0 ≤ y) (y1 : y ≤ 255) : ∀ e ∈ cvsX, CvOk (rhoX a b way n x y w s0 s1 o0 o1 off p0 p1) e := by
  intro e he
  simp only [cvsX, List.mem_cons, List.not_mem_nil, or_false] at he
  rcases he with rfl | rfl | rfl | rfl | rfl | rfl | rfl
  · exact cv_u8 rfl x0 x1
  · exact cv_u8 rfl y0 y1
  · exact cv_i64 rfl x0 x1
  · exact cv_i64 rfl y0 y1
  · exact cv_u8 rfl (show 0 ≤ (x + y + 1) / 2 by omega) (show (x + y + 1) / 2 ≤ 255 by omega)
  · exact cv_u8 rfl (clipR_rng _).1 (clipR_rng _).2
  · intro η hρ
    show Exec.SR η ⟨24, 34, 23, 0, 0, [], []⟩ (.int .u64 (IntKind.u64.wrap way))
    have := Exec.SR.var (η := η) (s := ⟨24, 34, 23, 0, 0, [], []⟩) .u64 rfl rfl
    rw [hρ] at this
    rw [IntKind.wrap_u64]
    exact this
noncomputable def shsX : List ShRow := [⟨false, 15, 1, vrS 16⟩, ⟨false, 42, 6, vrS 3⟩, ⟨false, 45, 6, vrS 4⟩]
noncomputable def shsW : List ShRow := [⟨false, 29, 6, vrS 30⟩]
noncomputable def shs4 : List ShRow := [⟨false, 24, 1, vrS 25⟩]
theorem sh_ok {ρ : Nat → Int} {i c j d : Nat} (hd : 2 ^ min c 64 = d) (hd0 : 0 < d) (h : ρ j = ρ i / (d : Int)) : ShOk ρ ⟨false, i, c, vrS j⟩ := fun η hρ => by
  show Exec.SR η (vrS j) (.int .i64 ((ρ i).fdiv (2 ^ min c 64)))
  have e : ((2 : Int) ^ min c 64) = (d : Int) := by rw [← hd]; simp
  rw [e, Int.fdiv_eq_ediv_of_nonneg _ (by omega), ← h, ← hρ]
  exact .var (s := vrS j) .i64 rfl rfl
theorem shsX_ok : ∀ e ∈ shsX, ShOk (rhoX a b way n x y w s0 s1 o0 o1 off p0 p1) e := by
  intro e he
  simp only [shsX, List.mem_cons, List.not_mem_nil, or_false] at he
  rcases he with rfl | rfl | rfl
  · exact sh_ok (d := 2) rfl (by decide) rfl
  · exact sh_ok (d := 64) rfl (by decide) (show x = (8 * (8 * x) + 32) / 64 by omega)
  · exact sh_ok (d := 64) rfl (by decide) (show y = (8 * (8 * y) + 32) / 64 by omega)
theorem shsW_ok : ∀ e ∈ shsW, ShOk (rhoX a b way n x y w s0 s1 o0 o1 off p0 p1) e := by
  intro e he
  rw [List.mem_singleton.1 he]
  exact sh_ok (d := 64) rfl (by decide) rfl
theorem shs4_ok (hf : off = (o0 + o1 + 1) / 2) : ∀ e ∈ shs4, ShOk (rhoX a b way n x y w s0 s1 o0 o1 off p0 p1) e := by
  intro e he
  rw [List.mem_singleton.1 he]
  exact sh_ok (d := 2) rfl (by decide) hf
end
noncomputable def argW (c : Nat) : Exec.V := Exec.vS ⟨101, 19, 5, c, 6, [], []⟩
noncomputable def mixRun (l : List Row) (sh : List ShRow) (q : Nat) (cl : Exec.FnC) (c : Nat) : Bool := Exec.okTrue (runQ (Exec.hyS l cvsX sh [⟨34, 3, q⟩]) (Exec.specAdd 19 cl specR) 4 [Exec.mkVar 0, Exec.mkVar 1, Exec.mkVar 2, argW c] startR)
end Go.Proofs.YtcmehedjdfopdaaGreat
