/-
  SyntaxFar: what is known of a vector: its length in bits, its sign, whether it is within MaxMv.
-/
import Derived.Test.YtehahelgemljlaaGreatDoorExM
namespace Go.Proofs.YtehahelgemljlaaGreatDoor
open Go.RowKit
open Go.Exec (Row RowOk)

noncomputable def lenN (x : Nat) : Nat := Bool.rec (motive := fun _ => Nat) (Nat.add (Nat.log2 x) 1) 0 (Nat.beq x 0)
noncomputable def lenB (x : Nat) : Bool := Exec.okMemo (Exec.st0 272) [] (Exec.mkI 19 (lenN x)) (runW Exec.hy0 specS 167 [Exec.mkI 23 x] (Exec.st0 272))
set_option maxRecDepth 1000000
theorem len_all : Exec.allN 514 lenB = true := by kernel_rfl
theorem len_two : Exec.allN 514 (fun x => Bool.or (Nat.blt x 2) (Bool.and (Nat.ble 2 (lenN x)) (Nat.ble (lenN x) 10))) = true := by kernel_rfl
theorem len_one : Exec.allN 514 (fun x => Bool.or (Nat.blt x 1) (Bool.and (Nat.ble 1 (lenN x)) (Nat.ble (lenN x) 10))) = true := by kernel_rfl
theorem coef_4_0 : coefRun 4 0 = true := by kernel_rfl
theorem empty_start : Exec.Start (Exec.st0 272) [] := ⟨fun n h => (by cases h), Nat.le_refl _, fun n _ hl => by rw [Exec.st0_dead] at hl; exact absurd hl (Nat.lt_irrefl 0)⟩
theorem len_memo (ρ : Nat → Int) {x : Nat} (hx : x < 514) : Exec.Memo Tryz.prog ρ (Exec.st0 272) [] 167 [Exec.mkI 23 x] (Exec.mkI 19 (lenN x)) :=
  fun _ _ _ _ _ hρ hv hR hm hg => Exec.memo_ok (runW_ok Exec.hy0_ok (specS_ok ρ)) empty_start (Exec.allN_ok len_all x hx) hρ hv hR hm hg
/-- math/bits.Len: of variable 7 known, else by its code -/
noncomputable def lenF (j : Nat) : Exec.FnC := ⟨fun call vs S => Exec.chk (Nat.beq vs.length 1) (Exec.nthV vs 0 (fun v => Exec.iff (Bool.and (Nat.beq v.s.tag 24) (Bool.and (Nat.beq v.s.b 23) (Nat.beq v.s.a 7))) (.ok (Exec.mkI 19 j) S)
  ((Exec.fnC drawS Exec.hy0 Tryz.prog (Exec.mthP Tryz.prog) Exec.spec0 idleS 167).f call vs S)))⟩
theorem lenF_one {ρ : Nat → Int} {x j : Nat} (h7 : ρ 7 = (x : Int)) (hx : x < 514) (hj : lenN x = j) : Exec.OneOk Tryz.prog ρ 167 (lenF j) := by
  intro call hcal vs S v S' η args w hρ hv hR h
  obtain ⟨h0, h⟩ := Exec.chk_ok h
  match vs, args, hv, h0, h with
  | [p], [y], .cons hp .nil, _, h =>
    rcases Exec.iff_ok (show Exec.iff (Bool.and (Nat.beq p.s.tag 24) (Bool.and (Nat.beq p.s.b 23) (Nat.beq p.s.a 7))) (.ok (Exec.mkI 19 j) S) ((Exec.fnC drawS Exec.hy0 Tryz.prog (Exec.mthP Tryz.prog) Exec.spec0 idleS 167).f call [p] S) = .ok v S' from h) with ⟨h1, h2⟩ | ⟨-, h2⟩
    · cases h2
      obtain ⟨h3, h4⟩ := Exec.and_ok h1
      obtain ⟨h5, h6⟩ := Exec.and_ok h4
      have e := (hp.asSc (by rw [Exec.beq_ok h3]; omega)).asVar (k := .u64) (Exec.beq_ok h3) (Exec.beq_ok h5)
      rw [Exec.beq_ok h6, hρ, h7] at e
      subst e
      refine ⟨rfl, ?_⟩
      have hv' : Exec.VRL η [Exec.mkI 23 x] [.int .u64 (x : Int)] := by
        have h8 := Exec.VR.mkI (η := η) .u64 (n := x) (show x < 18446744073709551616 by omega)
        rw [IntKind.wrap_u64, Int.emod_eq_of_lt (by omega) (by omega)] at h8
        exact .cons h8 .nil
      have hm : Exec.matVs [Exec.mkI 23 x] [Exec.mkI 23 x] = true := by
        have : Exec.matV (Exec.mkI 23 x) (Exec.mkI 23 x) = true := by
          show Bool.and (Exec.matS _ _) true = true
          simp [Exec.matS, Exec.eqP, Exec.mkI, Exec.pureS]
        show Bool.rec (motive := fun _ => Bool) false true (Exec.matV (Exec.mkI 23 x) (Exec.mkI 23 x)) = true
        rw [this]
      rw [← hj]
      exact len_memo ρ hx _ S η _ w hρ hv' hR hm rfl
    · exact Exec.fn_one idleS_ok Exec.hy0_ok Exec.mthP_ok (draw_ok ρ _ Exec.hy0_ok) _ call hcal _ _ _ _ _ _ _ hρ (.cons hp .nil) hR h2
theorem awake21_runU : Exec.okMemo startS [0] Exec.vT (runW Exec.hy0 specM 6 [] startS) = true := by kernel_rfl
noncomputable def specU : Nat → Option Exec.FnC := Exec.specAdd 6 (memoS [([], Exec.vT)]) (Exec.specAdd 67 (Exec.lentC startS [0] [coefEnt 4 0] Exec.badF) specS)
theorem specU_ok (ρ : Nat → Int) : Exec.SpecOk Tryz.prog ρ specU :=
  Exec.specAdd_ok (memoS_one fun e he => by rw [List.mem_singleton.1 he]; exact memo_run ρ (specM_ok ρ) awake21_runU) (Exec.specAdd_ok (Exec.lent_one Exec.bad_one fun e he => by rw [List.mem_singleton.1 he]; exact coef_memo ρ coef_4_0) (specS_ok ρ))
noncomputable def specV (j : Nat) : Nat → Option Exec.FnC := Exec.specAdd 167 (lenF j) specU

noncomputable def boS (b : Bool) : Exec.Sc := ⟨1, cond b 1 0, 0, 0, 0, [], []⟩
noncomputable def vrS (j : Nat) : Exec.Sc := ⟨24, j, 19, 0, 0, [], []⟩
noncomputable def resQ (q : Nat) : Nat := Bool.rec (motive := fun _ => Nat) (Nat.sub q 3) (Nat.sub 18446744073709551616 (Nat.sub 3 q)) (Nat.blt q 3)
noncomputable def rowsA (q1 q2 : Nat) (lo hi : Bool) : List Row := [⟨.rem, true, 0, false, 400, vrS 3⟩, ⟨.rem, true, 1, false, 4, i64S (resQ q1)⟩, ⟨.rem, true, 2, false, 4, i64S (resQ q2)⟩, ⟨.geq, true, 3, false, 18446744073709551360, boS lo⟩, ⟨.leq, true, 3, false, 256, boS hi⟩]
noncomputable def rowsB (pos : Bool) : List Row := [⟨.sub, true, 3, false, 0, vrS 3⟩, ⟨.add, false, 0, true, 3, vrS 3⟩, ⟨.lss, true, 3, false, 18446744072635809793, boS false⟩, ⟨.gtr, true, 3, false, 1073741823, boS false⟩, ⟨.gtr, true, 3, false, 0, boS pos⟩]
noncomputable def rowsP : List Row := [⟨.mul, false, 2, true, 3, vrS 4⟩, ⟨.sub, true, 4, false, 1, vrS 5⟩, ⟨.lss, true, 5, false, 0, boS false⟩, ⟨.gtr, true, 5, false, 2147483646, boS false⟩, ⟨.add, true, 5, false, 1, vrS 6⟩]
noncomputable def rowsN : List Row := [⟨.mul, false, 18446744073709551614, true, 3, vrS 4⟩, ⟨.lss, true, 4, false, 0, boS false⟩, ⟨.gtr, true, 4, false, 2147483646, boS false⟩, ⟨.add, true, 4, false, 1, vrS 6⟩]
noncomputable def farNo (q1 q2 : Nat) (lo hi : Bool) : Bool := Exec.okTrue (runW (Exec.hyR (rowsA q1 q2 lo hi) []) specU 4 [Exec.mkVar 0, Exec.mkVar 1, Exec.mkVar 2] startS)
noncomputable def farP (q1 j : Nat) : Bool := Exec.okTrue (runW (Exec.hyR (rowsA q1 3 true true ++ (rowsB true ++ rowsP)) [(6, 7)]) (specV j) 4 [Exec.mkVar 0, Exec.mkVar 1, Exec.mkVar 2] startS)
noncomputable def farN (q1 j : Nat) : Bool := Exec.okTrue (runW (Exec.hyR (rowsA q1 3 true true ++ (rowsB false ++ rowsN)) [(6, 7)]) (specV j) 4 [Exec.mkVar 0, Exec.mkVar 1, Exec.mkVar 2] startS)

/-- the variables: the arguments, the vector, twice it, less 1, what is written and 1, the same without a sign -/
def rhoF (x ref dir v t u : Int) : Nat → Int
  | 0 => x
  | 1 => ref
  | 2 => dir
  | 3 => v
  | 4 => t
  | 5 => t - 1
  | 6 => u
  | 7 => u
  | _ => 0
theorem w64 {n : Int} (h0 : -9223372036854775808 ≤ n) (h1 : n < 9223372036854775808) : IntKind.i64.wrap n = n := by rw [IntKind.wrap_i64]; omega
theorem SR.bo {η : Exec.Nv} (b : Bool) : Exec.SR η (boS b) (.bool b) := .bool b rfl rfl
theorem row_var {ρ : Nat → Int} {op : Go.BinOp} {v1 v2 : Bool} {a1 a2 j : Nat} (h : Exec.opV op (Exec.valR ρ v1 a1) (Exec.valR ρ v2 a2) = some (.int .i64 (ρ j))) : RowOk ρ ⟨op, v1, a1, v2, a2, vrS j⟩ :=
  ⟨_, h, fun η hρ => by rw [← hρ]; exact .var (s := vrS j) .i64 rfl rfl⟩
theorem row_bool {ρ : Nat → Int} {op : Go.BinOp} {v1 v2 : Bool} {a1 a2 : Nat} {b : Bool} (h : Exec.opV op (Exec.valR ρ v1 a1) (Exec.valR ρ v2 a2) = some (.bool b)) : RowOk ρ ⟨op, v1, a1, v2, a2, boS b⟩ := ⟨_, h, fun _ _ => SR.bo b⟩
theorem row_int {ρ : Nat → Int} {op : Go.BinOp} {v1 v2 : Bool} {a1 a2 n : Nat} (hn : n < 18446744073709551616) (h : Exec.opV op (Exec.valR ρ v1 a1) (Exec.valR ρ v2 a2) = some (.int .i64 (IntKind.i64.wrap n))) : RowOk ρ ⟨op, v1, a1, v2, a2, i64S n⟩ :=
  ⟨_, h, fun _ _ => .int (s := i64S n) .i64 rfl hn⟩
theorem resQ_val : ∀ q, q < 7 → resQ q < 18446744073709551616 ∧ IntKind.i64.wrap (resQ q : Nat) = (q : Int) - 3
  | 0, _ | 1, _ | 2, _ | 3, _ | 4, _ | 5, _ | 6, _ => ⟨by decide, by rw [IntKind.wrap_i64]; decide⟩
  | q + 7, h => by omega
theorem rowsA_ok {x ref dir v t u : Int} {q1 q2 : Nat} {lo hi : Bool} (hv : v = x.tmod 400) (h1 : q1 < 7) (h2 : q2 < 7) (e1 : ref.tmod 4 = (q1 : Int) - 3) (e2 : dir.tmod 4 = (q2 : Int) - 3) (hlo : lo = decide (-256 ≤ v)) (hhi : hi = decide (v ≤ 256)) : ∀ e ∈ rowsA q1 q2 lo hi, RowOk (rhoF x ref dir v t u) e := by
  intro e he
  simp only [rowsA, List.mem_cons, List.not_mem_nil, or_false] at he
  obtain ⟨r1, r2⟩ := resQ_val q1 h1
  obtain ⟨r3, r4⟩ := resQ_val q2 h2
  have c4 : IntKind.i64.wrap ((4 : Nat) : Int) = 4 := by rw [IntKind.wrap_i64]; rfl
  have c400 : IntKind.i64.wrap ((400 : Nat) : Int) = 400 := by rw [IntKind.wrap_i64]; rfl
  have c256 : IntKind.i64.wrap ((256 : Nat) : Int) = 256 := by rw [IntKind.wrap_i64]; rfl
  have cm : IntKind.i64.wrap ((18446744073709551360 : Nat) : Int) = -256 := by rw [IntKind.wrap_i64]; rfl
  rcases he with rfl | rfl | rfl | rfl | rfl
  · exact row_var (by simp only [Exec.valR, c400, Exec.opV]; rw [if_neg (by decide)]; simp [rhoF, hv])
  · exact row_int r1 (by simp only [Exec.valR, c4, Exec.opV, r2]; rw [if_neg (by decide)]; simp [rhoF, e1])
  · exact row_int r3 (by simp only [Exec.valR, c4, Exec.opV, r4]; rw [if_neg (by decide)]; simp [rhoF, e2])
  · exact row_bool (by simp only [Exec.valR, cm, Exec.opV, hlo]; simp [rhoF])
  · exact row_bool (by simp only [Exec.valR, c256, Exec.opV, hhi]; simp [rhoF])
theorem rowsB_ok {x ref dir v t u : Int} {pos : Bool} (l : -256 ≤ v) (g : v ≤ 256) (hp : pos = decide (0 < v)) : ∀ e ∈ rowsB pos, RowOk (rhoF x ref dir v t u) e := by
  intro e he
  simp only [rowsB, List.mem_cons, List.not_mem_nil, or_false] at he
  have c0 : IntKind.i64.wrap ((0 : Nat) : Int) = 0 := by rw [IntKind.wrap_i64]; rfl
  have ca : IntKind.i64.wrap ((18446744072635809793 : Nat) : Int) = -1073741823 := by rw [IntKind.wrap_i64]; rfl
  have cb : IntKind.i64.wrap ((1073741823 : Nat) : Int) = 1073741823 := by rw [IntKind.wrap_i64]; rfl
  have hw : IntKind.i64.wrap v = v := w64 (by omega) (by omega)
  rcases he with rfl | rfl | rfl | rfl | rfl
  · exact row_var (by simp only [Exec.valR, c0, Exec.opV]; simp [rhoF, hw])
  · exact row_var (by simp only [Exec.valR, c0, Exec.opV]; simp [rhoF, hw])
  · exact row_bool (by simp only [Exec.valR, ca, Exec.opV]; simp [rhoF]; omega)
  · exact row_bool (by simp only [Exec.valR, cb, Exec.opV]; simp [rhoF]; omega)
  · exact row_bool (by simp only [Exec.valR, c0, Exec.opV, hp]; simp [rhoF])
theorem rowsP_ok {x ref dir v : Int} (l : 0 < v) (g : v ≤ 256) : ∀ e ∈ rowsP, RowOk (rhoF x ref dir v (2 * v) (2 * v)) e := by
  intro e he
  simp only [rowsP, List.mem_cons, List.not_mem_nil, or_false] at he
  have c0 : IntKind.i64.wrap ((0 : Nat) : Int) = 0 := by rw [IntKind.wrap_i64]; rfl
  have c1 : IntKind.i64.wrap ((1 : Nat) : Int) = 1 := by rw [IntKind.wrap_i64]; rfl
  have c2 : IntKind.i64.wrap ((2 : Nat) : Int) = 2 := by rw [IntKind.wrap_i64]; rfl
  have cb : IntKind.i64.wrap ((2147483646 : Nat) : Int) = 2147483646 := by rw [IntKind.wrap_i64]; rfl
  rcases he with rfl | rfl | rfl | rfl | rfl
  · exact row_var (by simp only [Exec.valR, c2, Exec.opV]; simp only [rhoF]; rw [w64 (by omega) (by omega)])
  · exact row_var (by simp only [Exec.valR, c1, Exec.opV]; simp only [rhoF]; rw [w64 (by omega) (by omega)])
  · exact row_bool (by simp only [Exec.valR, c0, Exec.opV]; simp [rhoF]; omega)
  · exact row_bool (by simp only [Exec.valR, cb, Exec.opV]; simp [rhoF]; omega)
  · exact row_var (by simp only [Exec.valR, c1, Exec.opV]; simp only [rhoF]; rw [show 2 * v - 1 + 1 = 2 * v by omega, w64 (by omega) (by omega)])
theorem rowsN_ok {x ref dir v : Int} (l : -256 ≤ v) (g : v ≤ 0) : ∀ e ∈ rowsN, RowOk (rhoF x ref dir v (-2 * v) (-2 * v + 1)) e := by
  intro e he
  simp only [rowsN, List.mem_cons, List.not_mem_nil, or_false] at he
  have c0 : IntKind.i64.wrap ((0 : Nat) : Int) = 0 := by rw [IntKind.wrap_i64]; rfl
  have c1 : IntKind.i64.wrap ((1 : Nat) : Int) = 1 := by rw [IntKind.wrap_i64]; rfl
  have c2 : IntKind.i64.wrap ((18446744073709551614 : Nat) : Int) = -2 := by rw [IntKind.wrap_i64]; rfl
  have cb : IntKind.i64.wrap ((2147483646 : Nat) : Int) = 2147483646 := by rw [IntKind.wrap_i64]; rfl
  rcases he with rfl | rfl | rfl | rfl
  · exact row_var (by simp only [Exec.valR, c2, Exec.opV]; simp only [rhoF]; rw [w64 (by omega) (by omega)])
  · exact row_bool (by simp only [Exec.valR, c0, Exec.opV]; simp [rhoF]; omega)
  · exact row_bool (by simp only [Exec.valR, cb, Exec.opV]; simp [rhoF]; omega)
  · exact row_var (by simp only [Exec.valR, c1, Exec.opV]; simp only [rhoF]; rw [w64 (by omega) (by omega)])
end Go.Proofs.YtehahelgemljlaaGreatDoor
