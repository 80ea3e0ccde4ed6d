/-
  The walk over package recon's Canvas.Slice for slices of kind I.
-/
import Derived.Test.YtcmehedjdfopdaaGreatJ15
import Derived.Test.YtcmehedjdfopdaaGreatJ07
namespace Go.Proofs.YtcmehedjdfopdaaGreat
open Go.RowKit

/-- A header of kind I. -/
def headI (first count qp : Int) : List Value := [.int .i64 first, .int .i64 count, .int .i64 2, .int .i64 0, .int .i64 0, .int .i64 0, .bool false, .int .i64 0, .int .i64 0, .slice none 0 0, .slice none 0 0, .int .i64 0, .int .i64 0, .slice none 0 0, .slice none 0 0, .bool false, .slice none 0 0, .int .i64 qp, .bool false, .int .i64 0, .int .i64 0]
def ppsL (de : Bool) (bp qp : Int) (we : Bool) : List Value := [.bool false, .bool we, .int .i64 bp, .int .i64 qp, .int .i64 0, .bool false, .bool de, .int .i64 1, .int .i64 1]

set_option maxRecDepth 100000 in
set_option maxHeartbeats 3200000 in
theorem slice_I {w : World} {cb yb ub vb cy cu cv wide high n c : Nat} {Y U V : List Int} {ao : Option Addr} {cur : Value} {aft : Int} (hc : CanAt w cb yb ub vb cy cu cv wide high Y U V (.slice ao n c) cur aft) (hwd : wide ≤ 60) (hhg : high ≤ 60) (ha : aft ≤ n) (count : Nat) (hn : 1 ≤ count) (hl : n + count ≤ wide * high) (qp : Int) (q0 : 0 ≤ qp) (q1 : qp ≤ 51) (de : Bool) (pq : Int) (p0 : 0 ≤ pq) (p1 : pq ≤ 51) :
    Calls Tryz.prog 23 #[.pointer (some ⟨cb, 0, none⟩), .agg (headI n count qp).toArray, .agg (ppsL de 0 pq false).toArray, .slice none 0 0, .slice none 0 0, .int .i64 0] w fun e w' => ∃ sb, e = .returned (.int .i64 0) ∧ w.heap.size ≤ sb ∧ w'.heap[sb]? = some (.cells (headI n count qp ++ ppsL de 0 pq false ++ ([.slice none 0 0, .slice none 0 0, .int .i64 0, .int .i64 qp] : List Value)).toArray 89 (0, 0)) ∧
      CanAt w' cb yb ub vb cy cu cv wide high Y U V (.slice ao n c) (.pointer (some ⟨sb, 0, none⟩)) ((n + count : Nat) : Int) ∧ Only [cb] w w' := by
  obtain ⟨A, hA⟩ : ∃ A, A = wide * high := ⟨_, rfl⟩
  have hA2 : A ≤ 3600 := by rw [hA]; exact Nat.le_trans (Nat.mul_le_mul hwd hhg) (by omega)
  have qm : IntKind.i64.wrap ((wide : Int) * (high : Int)) = (A : Int) := by rw [← Int.natCast_mul, ← hA]; exact i64n _ (by omega)
  rw [← hA] at hl
  have s0 : w.cell? ⟨cb, 0, none⟩ = some (.int .i64 wide) := by rw [cells_of hc.st]; rfl
  have s1 : w.cell? ⟨cb, 1, none⟩ = some (.int .i64 high) := by rw [cells_of hc.st]; rfl
  have s7 : w.cell? ⟨cb, 7, none⟩ = some (.slice ao n c) := by rw [cells_of hc.st]; rfl
  have s5 : w.cell? ⟨cb, 9, none⟩ = some (.int .i64 aft) := by rw [cells_of hc.st]; rfl
  have hcb := lt_of_block hc.st
  have hlt : decide ((n : Int) < aft) = false := by simp; omega
  have HC := Lib.hid hc
  clear hc hA
  unfold headI ppsL
  have A0 := Lib.hid (heap_alloc2_old w (.cells #[.int .i64 n, .int .i64 count, .int .i64 2, .int .i64 0, .int .i64 0, .int .i64 0, .bool false, .int .i64 0, .int .i64 0, .slice none 0 0, .slice none 0 0, .int .i64 0, .int .i64 0, .slice none 0 0, .slice none 0 0, .bool false, .slice none 0 0, .int .i64 qp, .bool false, .int .i64 0, .int .i64 0] 27) (.cells #[.bool false, .bool false, .int .i64 0, .int .i64 pq, .int .i64 0, .bool false, .bool de, .int .i64 1, .int .i64 1] 32))
  have A1 := Lib.hid (heap_alloc2_new w (.cells #[.int .i64 n, .int .i64 count, .int .i64 2, .int .i64 0, .int .i64 0, .int .i64 0, .bool false, .int .i64 0, .int .i64 0, .slice none 0 0, .slice none 0 0, .int .i64 0, .int .i64 0, .slice none 0 0, .slice none 0 0, .bool false, .slice none 0 0, .int .i64 qp, .bool false, .int .i64 0, .int .i64 0] 27) (.cells #[.bool false, .bool false, .int .i64 0, .int .i64 pq, .int .i64 0, .bool false, .bool de, .int .i64 1, .int .i64 1] 32))
  have OA : Hid (Only [] w ((w.alloc (.cells #[.int .i64 n, .int .i64 count, .int .i64 2, .int .i64 0, .int .i64 0, .int .i64 0, .bool false, .int .i64 0, .int .i64 0, .slice none 0 0, .slice none 0 0, .int .i64 0, .int .i64 0, .slice none 0 0, .slice none 0 0, .bool false, .slice none 0 0, .int .i64 qp, .bool false, .int .i64 0, .int .i64 0] 27)).alloc (.cells #[.bool false, .bool false, .int .i64 0, .int .i64 pq, .int .i64 0, .bool false, .bool de, .int .i64 1, .int .i64 1] 32))) := Lib.hid (((Only.refl [] w).alloc _).alloc _)
  have hpps := fun (wx : World) => may_pps false false false de 0 pq (by decide) (by decide) p0 p1 wx
  have HPP := Lib.hid hpps
  clear hpps
  go_enter Tryz.func23, Tryz.ntmps23
  go_wp2_with fail
  go_quiet (fail)
  rename_i nq
  have B0 : Hid ((((w.alloc (.cells #[.int .i64 n, .int .i64 count, .int .i64 2, .int .i64 0, .int .i64 0, .int .i64 0, .bool false, .int .i64 0, .int .i64 0, .slice none 0 0, .slice none 0 0, .int .i64 0, .int .i64 0, .slice none 0 0, .slice none 0 0, .bool false, .slice none 0 0, .int .i64 qp, .bool false, .int .i64 0, .int .i64 0] 27)).alloc (.cells #[.bool false, .bool false, .int .i64 0, .int .i64 pq, .int .i64 0, .bool false, .bool de, .int .i64 1, .int .i64 1] 32)).drewN nq).heap[w.heap.size]? = some (.cells #[.int .i64 n, .int .i64 count, .int .i64 2, .int .i64 0, .int .i64 0, .int .i64 0, .bool false, .int .i64 0, .int .i64 0, .slice none 0 0, .slice none 0 0, .int .i64 0, .int .i64 0, .slice none 0 0, .slice none 0 0, .bool false, .slice none 0 0, .int .i64 qp, .bool false, .int .i64 0, .int .i64 0] 27 (0, 0))) := Lib.hid A0.out
  have B1 : Hid ((((w.alloc (.cells #[.int .i64 n, .int .i64 count, .int .i64 2, .int .i64 0, .int .i64 0, .int .i64 0, .bool false, .int .i64 0, .int .i64 0, .slice none 0 0, .slice none 0 0, .int .i64 0, .int .i64 0, .slice none 0 0, .slice none 0 0, .bool false, .slice none 0 0, .int .i64 qp, .bool false, .int .i64 0, .int .i64 0] 27)).alloc (.cells #[.bool false, .bool false, .int .i64 0, .int .i64 pq, .int .i64 0, .bool false, .bool de, .int .i64 1, .int .i64 1] 32)).drewN nq).heap[w.heap.size + 1]? = some (.cells #[.bool false, .bool false, .int .i64 0, .int .i64 pq, .int .i64 0, .bool false, .bool de, .int .i64 1, .int .i64 1] 32 (0, 0))) := Lib.hid A1.out
  have OB := Lib.hid (OA.out.drewN nq)
  clear A0 A1 OA
  generalize ((w.alloc (.cells #[.int .i64 n, .int .i64 count, .int .i64 2, .int .i64 0, .int .i64 0, .int .i64 0, .bool false, .int .i64 0, .int .i64 0, .slice none 0 0, .slice none 0 0, .int .i64 0, .int .i64 0, .slice none 0 0, .slice none 0 0, .bool false, .slice none 0 0, .int .i64 qp, .bool false, .int .i64 0, .int .i64 0] 27)).alloc (.cells #[.bool false, .bool false, .int .i64 0, .int .i64 pq, .int .i64 0, .bool false, .bool de, .int .i64 1, .int .i64 1] 32)).drewN nq = w1 at *
  have d2 := OB.out.cell s7 (by simp)
  have d3 := OB.out.cell s5 (by simp)
  have d0 : w1.cell? ⟨w.heap.size, 0, none⟩ = some (.int .i64 n) := by rw [cells_of B0.out]; rfl
  have d1 : w1.cell? ⟨w.heap.size, 1, none⟩ = some (.int .i64 count) := by rw [cells_of B0.out]; rfl
  have d4 : w1.cell? ⟨w.heap.size + 1, 0, none⟩ = some (.bool false) := by rw [cells_of B1.out]; rfl
  have d5 : w1.cell? ⟨w.heap.size + 1, 1, none⟩ = some (.bool false) := by rw [cells_of B1.out]; rfl
  have d6 : w1.cell? ⟨w.heap.size + 1, 2, none⟩ = some (.int .i64 0) := by rw [cells_of B1.out]; rfl
  have d7 : w1.cell? ⟨w.heap.size + 1, 3, none⟩ = some (.int .i64 pq) := by rw [cells_of B1.out]; rfl
  have d8 : w1.cell? ⟨w.heap.size + 1, 4, none⟩ = some (.int .i64 0) := by rw [cells_of B1.out]; rfl
  have d9 : w1.cell? ⟨w.heap.size + 1, 5, none⟩ = some (.bool false) := by rw [cells_of B1.out]; rfl
  have d10 : w1.cell? ⟨w.heap.size + 1, 6, none⟩ = some (.bool de) := by rw [cells_of B1.out]; rfl
  have d11 : w1.cell? ⟨w.heap.size + 1, 7, none⟩ = some (.int .i64 1) := by rw [cells_of B1.out]; rfl
  have d12 : w1.cell? ⟨w.heap.size + 1, 8, none⟩ = some (.int .i64 1) := by rw [cells_of B1.out]; rfl
  have d13 : w1.cell? ⟨w.heap.size, 2, none⟩ = some (.int .i64 2) := by rw [cells_of B0.out]; rfl
  have d14 : w1.cell? ⟨w.heap.size, 7, none⟩ = some (.int .i64 0) := by rw [cells_of B0.out]; rfl
  have d15 : w1.cell? ⟨w.heap.size, 8, none⟩ = some (.int .i64 0) := by rw [cells_of B0.out]; rfl
  have d16 : w1.cell? ⟨w.heap.size, 11, none⟩ = some (.int .i64 0) := by rw [cells_of B0.out]; rfl
  have d17 : w1.cell? ⟨w.heap.size, 12, none⟩ = some (.int .i64 0) := by rw [cells_of B0.out]; rfl
  have d18 : w1.cell? ⟨w.heap.size, 13, none⟩ = some (.slice none 0 0) := by rw [cells_of B0.out]; rfl
  have d19 : w1.cell? ⟨w.heap.size, 14, none⟩ = some (.slice none 0 0) := by rw [cells_of B0.out]; rfl
  have d20 : w1.cell? ⟨w.heap.size, 17, none⟩ = some (.int .i64 qp) := by rw [cells_of B0.out]; rfl
  have d21 : w1.cell? ⟨w.heap.size, 19, none⟩ = some (.int .i64 0) := by rw [cells_of B0.out]; rfl
  have d22 : w1.cell? ⟨w.heap.size, 20, none⟩ = some (.int .i64 0) := by rw [cells_of B0.out]; rfl
  have OC : Hid (Only [] w1 w1) := Lib.hid (Only.refl [] w1)
  clear s0 s1 s7 s5
  go_wp2_with fail
  go_region_held3 (fun w' => w'.cell? ⟨w.heap.size, 0, none⟩ = some (.int .i64 n) ∧ w'.cell? ⟨w.heap.size, 1, none⟩ = some (.int .i64 count) ∧ w'.cell? ⟨cb, 7, none⟩ = some (.slice ao n c) ∧ w'.cell? ⟨cb, 9, none⟩ = some (.int .i64 aft) ∧ w'.cell? ⟨w.heap.size + 1, 0, none⟩ = some (.bool false) ∧ w'.cell? ⟨w.heap.size + 1, 1, none⟩ = some (.bool false) ∧ w'.cell? ⟨w.heap.size + 1, 2, none⟩ = some (.int .i64 0) ∧ w'.cell? ⟨w.heap.size + 1, 3, none⟩ = some (.int .i64 pq) ∧ w'.cell? ⟨w.heap.size + 1, 4, none⟩ = some (.int .i64 0) ∧ w'.cell? ⟨w.heap.size + 1, 5, none⟩ = some (.bool false) ∧ w'.cell? ⟨w.heap.size + 1, 6, none⟩ = some (.bool de) ∧ w'.cell? ⟨w.heap.size + 1, 7, none⟩ = some (.int .i64 1) ∧ w'.cell? ⟨w.heap.size + 1, 8, none⟩ = some (.int .i64 1)) ((refine ⟨?_, ?_, ?_, ?_, ?_, ?_, ?_, ?_, ?_, ?_, ?_, ?_, ?_⟩ <;> (repeat (first | with_reducible assumption | with_reducible refine cell_drew ?_))))
    ((first
      | (go_at_call 35
         refine (in_yes _ _ _ (by omega) (by omega) _).mono ?_
         rintro rr wn ⟨rfl, rfl⟩)
      | ((first
          | (with_reducible refine (HPP.out _).mono ?_)
          | (go_at_call 37; refine (may_headI q0 q1 (by with_reducible first | assumption | exact OC.out.cell (by with_reducible assumption) (by simp)) (by with_reducible first | assumption | exact OC.out.cell (by with_reducible assumption) (by simp)) (by with_reducible first | assumption | exact OC.out.cell (by with_reducible assumption) (by simp)) (by with_reducible first | assumption | exact OC.out.cell (by with_reducible assumption) (by simp)) (by with_reducible first | assumption | exact OC.out.cell (by with_reducible assumption) (by simp)) (by with_reducible first | assumption | exact OC.out.cell (by with_reducible assumption) (by simp)) (by with_reducible first | assumption | exact OC.out.cell (by with_reducible assumption) (by simp)) (by with_reducible first | assumption | exact OC.out.cell (by with_reducible assumption) (by simp)) (by with_reducible first | assumption | exact OC.out.cell (by with_reducible assumption) (by simp)) (by with_reducible first | assumption | exact OC.out.cell (by with_reducible assumption) (by simp))).mono ?_))
         rintro rr wn ⟨rfl, gn⟩
         have OD : Hid (Only [] w1 wn) := Lib.hid (by with_reducible first | exact OC.out.trans gn | exact OC.out.drew.trans gn)
         clear OC gn
         have OC := OD
         clear OD
         have f0 := OC.out.cell d0 (by simp)
         have f1 := OC.out.cell d1 (by simp)
         have f2 := OC.out.cell d2 (by simp)
         have f3 := OC.out.cell d3 (by simp)
         have f4 := OC.out.cell d4 (by simp)
         have f5 := OC.out.cell d5 (by simp)
         have f6 := OC.out.cell d6 (by simp)
         have f7 := OC.out.cell d7 (by simp)
         have f8 := OC.out.cell d8 (by simp)
         have f9 := OC.out.cell d9 (by simp)
         have f10 := OC.out.cell d10 (by simp)
         have f11 := OC.out.cell d11 (by simp)
         have f12 := OC.out.cell d12 (by simp)
         have f13 := OC.out.cell d13 (by simp)
         have f14 := OC.out.cell d14 (by simp)
         have f15 := OC.out.cell d15 (by simp)
         have f16 := OC.out.cell d16 (by simp)
         have f17 := OC.out.cell d17 (by simp)
         have f18 := OC.out.cell d18 (by simp)
         have f19 := OC.out.cell d19 (by simp)
         have f20 := OC.out.cell d20 (by simp)
         have f21 := OC.out.cell d21 (by simp)
         have f22 := OC.out.cell d22 (by simp))))
  have C0 := Lib.hid (OC.out.heap B0.out (by simp))
  have C1 := Lib.hid (OC.out.heap B1.out (by simp))
  have O3 := Lib.hid (OB.out.trans OC.out)
  clear d0 d1 d2 d3 d4 d5 d6 d7 d8 d9 d10 d11 d12 d13 d14 d15 d16 d17 d18 d19 d20 d21 d22 f0 f1 f2 f3 f4 f5 f6 f7 f8 f9 f10 f11 f12 f13 f14 f15 f16 f17 f18 f19 f20 f21 f22 B0 B1 OB OC
  have e7 : wn.cell? ⟨w.heap.size, 7, none⟩ = some (.int .i64 0) := by rw [cells_of C0.out]; rfl
  have e8 : wn.cell? ⟨w.heap.size, 8, none⟩ = some (.int .i64 0) := by rw [cells_of C0.out]; rfl
  go_wp2_with fail
  refine (pictures0 cb _).mono ?_
  rintro e w' ⟨rfl, rfl⟩
  go_wp2_with fail
  refine (pictures0 cb _).mono ?_
  rintro e w' ⟨rfl, rfl⟩
  go_wp2_with fail
  have e13 : wn.cell? ⟨w.heap.size, 13, none⟩ = some (.slice none 0 0) := by rw [cells_of C0.out]; rfl
  have e14 : wn.cell? ⟨w.heap.size, 14, none⟩ = some (.slice none 0 0) := by rw [cells_of C0.out]; rfl
  have e9 : wn.cell? ⟨w.heap.size, 9, none⟩ = some (.slice none 0 0) := by rw [cells_of C0.out]; rfl
  have e10 : wn.cell? ⟨w.heap.size, 10, none⟩ = some (.slice none 0 0) := by rw [cells_of C0.out]; rfl
  have e16 : wn.cell? ⟨w.heap.size, 16, none⟩ = some (.slice none 0 0) := by rw [cells_of C0.out]; rfl
  have z13 := free_of C0.out 13
  have z14 := free_of C0.out 14
  have z9 := free_of C0.out 9
  have z10 := free_of C0.out 10
  have z16 := free_of C0.out 16
  have t13 : wn.drew.setCell ⟨w.heap.size, 13, none⟩ (.slice none 0 0) = wn.drew := setCell_same (w := wn.drew) (show wn.drew.heap[w.heap.size]? = _ from C0.out) rfl
  have t14 : wn.drew.setCell ⟨w.heap.size, 14, none⟩ (.slice none 0 0) = wn.drew := setCell_same (w := wn.drew) (show wn.drew.heap[w.heap.size]? = _ from C0.out) rfl
  have t9 : wn.drew.setCell ⟨w.heap.size, 9, none⟩ (.slice none 0 0) = wn.drew := setCell_same (w := wn.drew) (show wn.drew.heap[w.heap.size]? = _ from C0.out) rfl
  have t10 : wn.drew.setCell ⟨w.heap.size, 10, none⟩ (.slice none 0 0) = wn.drew := setCell_same (w := wn.drew) (show wn.drew.heap[w.heap.size]? = _ from C0.out) rfl
  have t16 : wn.drew.setCell ⟨w.heap.size, 16, none⟩ (.slice none 0 0) = wn.drew := setCell_same (w := wn.drew) (show wn.drew.heap[w.heap.size]? = _ from C0.out) rfl
  go_region_held3 (fun w' => w'.cell? ⟨w.heap.size, 13, none⟩ = some (.slice none 0 0) ∧ w'.cell? ⟨w.heap.size, 14, none⟩ = some (.slice none 0 0)) ((refine ⟨?_, ?_⟩ <;> (repeat (first | with_reducible assumption | with_reducible refine cell_drew ?_))))
    ((go_at_call 39
      refine (clone_ws0 _).mono ?_
      rintro rr wz ⟨rfl, rfl⟩))
  have D0 : Hid (wn.drew.heap[w.heap.size]? = some (.cells #[.int .i64 n, .int .i64 count, .int .i64 2, .int .i64 0, .int .i64 0, .int .i64 0, .bool false, .int .i64 0, .int .i64 0, .slice none 0 0, .slice none 0 0, .int .i64 0, .int .i64 0, .slice none 0 0, .slice none 0 0, .bool false, .slice none 0 0, .int .i64 qp, .bool false, .int .i64 0, .int .i64 0] 27 (0, 0))) := Lib.hid C0.out
  have D1 : Hid (wn.drew.heap[w.heap.size + 1]? = some (.cells #[.bool false, .bool false, .int .i64 0, .int .i64 pq, .int .i64 0, .bool false, .bool de, .int .i64 1, .int .i64 1] 32 (0, 0))) := Lib.hid C1.out
  have OD := Lib.hid O3.out.drew
  clear e7 e8 e13 e14 e9 e10 e16 z13 z14 z9 z10 z16 t13 t14 t9 t10 t16 C0 C1 O3
  generalize wn.drew = w5 at *
  have e17 : w5.cell? ⟨w.heap.size, 17, none⟩ = some (.int .i64 qp) := by rw [cells_of D0.out]; rfl
  have e0 : w5.cell? ⟨w.heap.size, 0, none⟩ = some (.int .i64 n) := by rw [cells_of D0.out]; rfl
  have e1 : w5.cell? ⟨w.heap.size, 1, none⟩ = some (.int .i64 count) := by rw [cells_of D0.out]; rfl
  have hcc := OD.out.heap HC.out.st (by simp)
  have c8 : w5.cell? ⟨cb, 8, none⟩ = some cur := by rw [cells_of hcc]; rfl
  have c9 : w5.cell? ⟨cb, 9, none⟩ = some (.int .i64 aft) := by rw [cells_of hcc]; rfl
  have y8 := free_of hcc 8
  have y9 := free_of hcc 9
  have hz5 := lt_of_block D1.out
  have hi0 : (Tryz.prog.info? 27).map (·.size) = some (#[.int .i64 n, .int .i64 count, .int .i64 2, .int .i64 0, .int .i64 0, .int .i64 0, .bool false, .int .i64 0, .int .i64 0, .slice none 0 0, .slice none 0 0, .int .i64 0, .int .i64 0, .slice none 0 0, .slice none 0 0, .bool false, .slice none 0 0, .int .i64 qp, .bool false, .int .i64 0, .int .i64 0] : Array Value).size := by kernel_rfl
  have hi1 : (Tryz.prog.info? 32).map (·.size) = some (#[.bool false, .bool false, .int .i64 0, .int .i64 pq, .int .i64 0, .bool false, .bool de, .int .i64 1, .int .i64 1] : Array Value).size := by kernel_rfl
  have HI0 := Lib.hid hi0
  have HI1 := Lib.hid hi1
  have HCC := Lib.hid hcc
  have hwr : IntKind.i64.wrap ((n : Int) + (count : Int)) = ((n + count : Nat) : Int) := by rw [← Int.natCast_add]; exact i64n _ (by omega)
  have g0 := cell_alloc (o := (.cells #[.int .i64 n, .int .i64 count, .int .i64 2, .int .i64 0, .int .i64 0, .int .i64 0, .bool false, .int .i64 0, .int .i64 0, .slice none 0 0, .slice none 0 0, .int .i64 0, .int .i64 0, .slice none 0 0, .slice none 0 0, .bool false, .slice none 0 0, .int .i64 qp, .bool false, .int .i64 0, .int .i64 0, .bool false, .bool false, .int .i64 0, .int .i64 pq, .int .i64 0, .bool false, .bool de, .int .i64 1, .int .i64 1, .slice none 0 0, .slice none 0 0, .int .i64 0, .int .i64 qp] 89)) e0
  have g1 := cell_alloc (o := (.cells #[.int .i64 n, .int .i64 count, .int .i64 2, .int .i64 0, .int .i64 0, .int .i64 0, .bool false, .int .i64 0, .int .i64 0, .slice none 0 0, .slice none 0 0, .int .i64 0, .int .i64 0, .slice none 0 0, .slice none 0 0, .bool false, .slice none 0 0, .int .i64 qp, .bool false, .int .i64 0, .int .i64 0, .bool false, .bool false, .int .i64 0, .int .i64 pq, .int .i64 0, .bool false, .bool de, .int .i64 1, .int .i64 1, .slice none 0 0, .slice none 0 0, .int .i64 0, .int .i64 qp] 89)) e1
  have g8 := cell_alloc (o := (.cells #[.int .i64 n, .int .i64 count, .int .i64 2, .int .i64 0, .int .i64 0, .int .i64 0, .bool false, .int .i64 0, .int .i64 0, .slice none 0 0, .slice none 0 0, .int .i64 0, .int .i64 0, .slice none 0 0, .slice none 0 0, .bool false, .slice none 0 0, .int .i64 qp, .bool false, .int .i64 0, .int .i64 0, .bool false, .bool false, .int .i64 0, .int .i64 pq, .int .i64 0, .bool false, .bool de, .int .i64 1, .int .i64 1, .slice none 0 0, .slice none 0 0, .int .i64 0, .int .i64 qp] 89)) c8
  have g9 := cell_alloc (o := (.cells #[.int .i64 n, .int .i64 count, .int .i64 2, .int .i64 0, .int .i64 0, .int .i64 0, .bool false, .int .i64 0, .int .i64 0, .slice none 0 0, .slice none 0 0, .int .i64 0, .int .i64 0, .slice none 0 0, .slice none 0 0, .bool false, .slice none 0 0, .int .i64 qp, .bool false, .int .i64 0, .int .i64 0, .bool false, .bool false, .int .i64 0, .int .i64 pq, .int .i64 0, .bool false, .bool de, .int .i64 1, .int .i64 1, .slice none 0 0, .slice none 0 0, .int .i64 0, .int .i64 qp] 89)) c9
  have x8 := free_of (heap_alloc_lt (.cells #[.int .i64 n, .int .i64 count, .int .i64 2, .int .i64 0, .int .i64 0, .int .i64 0, .bool false, .int .i64 0, .int .i64 0, .slice none 0 0, .slice none 0 0, .int .i64 0, .int .i64 0, .slice none 0 0, .slice none 0 0, .bool false, .slice none 0 0, .int .i64 qp, .bool false, .int .i64 0, .int .i64 0, .bool false, .bool false, .int .i64 0, .int .i64 pq, .int .i64 0, .bool false, .bool de, .int .i64 1, .int .i64 1, .slice none 0 0, .slice none 0 0, .int .i64 0, .int .i64 qp] 89) hcc) 8
  have x9 := free_of (heap_alloc_lt (.cells #[.int .i64 n, .int .i64 count, .int .i64 2, .int .i64 0, .int .i64 0, .int .i64 0, .bool false, .int .i64 0, .int .i64 0, .slice none 0 0, .slice none 0 0, .int .i64 0, .int .i64 0, .slice none 0 0, .slice none 0 0, .bool false, .slice none 0 0, .int .i64 qp, .bool false, .int .i64 0, .int .i64 0, .bool false, .bool false, .int .i64 0, .int .i64 pq, .int .i64 0, .bool false, .bool de, .int .i64 1, .int .i64 1, .slice none 0 0, .slice none 0 0, .int .i64 0, .int .i64 qp] 89) hcc) 9
  clear hcc hi0 hi1
  go_wp2_with (first
    | (with_reducible refine wpList_load_row rfl _ _ rfl _ rfl _ _ _ _ D0.out Tryz.underlying27 rfl HI0.out ?_)
    | (with_reducible refine wpList_load_row rfl _ _ rfl _ rfl _ _ _ _ D1.out Tryz.underlying32 rfl HI1.out ?_))
  go_ret
  have a1 := heap_alloc_at w5 (.cells #[.int .i64 n, .int .i64 count, .int .i64 2, .int .i64 0, .int .i64 0, .int .i64 0, .bool false, .int .i64 0, .int .i64 0, .slice none 0 0, .slice none 0 0, .int .i64 0, .int .i64 0, .slice none 0 0, .slice none 0 0, .bool false, .slice none 0 0, .int .i64 qp, .bool false, .int .i64 0, .int .i64 0, .bool false, .bool false, .int .i64 0, .int .i64 pq, .int .i64 0, .bool false, .bool de, .int .i64 1, .int .i64 1, .slice none 0 0, .slice none 0 0, .int .i64 0, .int .i64 qp] 89)
  have n1 : w5.heap.size ≠ cb := by omega
  have ho := ((OD.out.alloc (.cells #[.int .i64 n, .int .i64 count, .int .i64 2, .int .i64 0, .int .i64 0, .int .i64 0, .bool false, .int .i64 0, .int .i64 0, .slice none 0 0, .slice none 0 0, .int .i64 0, .int .i64 0, .slice none 0 0, .slice none 0 0, .bool false, .slice none 0 0, .int .i64 qp, .bool false, .int .i64 0, .int .i64 0, .bool false, .bool false, .int .i64 0, .int .i64 pq, .int .i64 0, .bool false, .bool de, .int .i64 1, .int .i64 1, .slice none 0 0, .slice none 0 0, .int .i64 0, .int .i64 qp] 89)).mono (T := [cb]) (by simp))
  have ho2 := (ho.setCell (p := ⟨cb, 8, none⟩) (.inl (by simp)) (.pointer (some ⟨w5.heap.size, 0, none⟩))).setCell (p := ⟨cb, 9, none⟩) (.inl (by simp)) (.int .i64 ((n : Int) + (count : Int)))
  have hst := heap_set_same (i := 9) (.int .i64 ((n : Int) + (count : Int))) (heap_set_same (i := 8) (.pointer (some ⟨w5.heap.size, 0, none⟩)) (heap_alloc_lt (.cells #[.int .i64 n, .int .i64 count, .int .i64 2, .int .i64 0, .int .i64 0, .int .i64 0, .bool false, .int .i64 0, .int .i64 0, .slice none 0 0, .slice none 0 0, .int .i64 0, .int .i64 0, .slice none 0 0, .slice none 0 0, .bool false, .slice none 0 0, .int .i64 qp, .bool false, .int .i64 0, .int .i64 0, .bool false, .bool false, .int .i64 0, .int .i64 pq, .int .i64 0, .bool false, .bool de, .int .i64 1, .int .i64 1, .slice none 0 0, .slice none 0 0, .int .i64 0, .int .i64 qp] 89) HCC.out))
  refine ⟨rfl, w5.heap.size, by omega, heap_set_other _ (heap_set_other _ a1 n1) n1, ?_, ho2⟩
  have hY := block_ne HC.out.st HC.out.ys.choose_spec (by decide)
  have hU := block_ne HC.out.st HC.out.us.choose_spec (by decide)
  have hV := block_ne HC.out.st HC.out.vs.choose_spec (by decide)
  obtain ⟨r1, g1⟩ := HC.out.ys
  obtain ⟨r2, g2⟩ := HC.out.us
  obtain ⟨r3, g3⟩ := HC.out.vs
  exact ⟨hst, ⟨r1, ho2.heap g1 (by simpa using hY.symm)⟩, ⟨r2, ho2.heap g2 (by simpa using hU.symm)⟩, ⟨r3, ho2.heap g3 (by simpa using hV.symm)⟩, HC.out.oy, HC.out.ou, HC.out.ov, HC.out.yu, HC.out.yv, HC.out.uv⟩
end Go.Proofs.YtcmehedjdfopdaaGreat
