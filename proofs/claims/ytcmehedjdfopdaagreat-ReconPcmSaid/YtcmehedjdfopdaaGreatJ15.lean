/-
  The walks over package params' ranges. The walk over params.MayPps for pictures' parameters that may be. The walks over slices.Clone of nothing and over package recon's pictures of none.
-/
import Derived.Test.YtcmehedjdfopdaaGreatJ14
import Derived.Test.YtcmehedjdfopdaaGreatJ04
namespace Go.Proofs.YtcmehedjdfopdaaGreat
open Go.RowKit

def rgL : List Int := [1, 8, 4, 8, 0, 2, -1000, 1000, 1, 8, 0, 2, 0, 51, -12, 12, 0, 4]
def rgRest (xs : List Int) : List Value := xs.map (Value.int .i64)

set_option maxRecDepth 100000 in
set_option maxHeartbeats 1600000 in
theorem rg_fill (bx tb : Nat) (w : World) (hx : w.heap[bx]? = some (.cells #[.pointer (some ⟨tb, 0, none⟩)] 134 (0, 0)))
    (hb : w.heap[tb]? = some (.cells (onceCells (.int .u32 0) (.int .i32 1) (rgRest (List.replicate 18 0))) 150 (0, 0))) :
    Calls Tryz.prog 91 #[.pointer (some ⟨bx, 0, none⟩)] w fun e w'' => e = .returned (.tuple #[]) ∧ w''.heap[tb]? = some (.cells (onceCells (.int .u32 0) (.int .i32 1) (rgRest rgL)) 150 (0, 0)) ∧ Only [tb] w w'' := by
  have c0 : w.cell? ⟨bx, 0, none⟩ = some (.pointer (some ⟨tb, 0, none⟩)) := by rw [cells_of hx]; rfl
  have hne : bx ≠ tb := block_ne hx hb (by decide)
  have k0 : w.cell? ⟨tb, 3, none⟩ = some (.int .i64 0) := by rw [cells_of hb]; rfl
  have z0 := free_of hb 3
  have k1 : w.cell? ⟨tb, 4, none⟩ = some (.int .i64 0) := by rw [cells_of hb]; rfl
  have z1 := free_of hb 4
  have k2 : w.cell? ⟨tb, 5, none⟩ = some (.int .i64 0) := by rw [cells_of hb]; rfl
  have z2 := free_of hb 5
  have k3 : w.cell? ⟨tb, 6, none⟩ = some (.int .i64 0) := by rw [cells_of hb]; rfl
  have z3 := free_of hb 6
  have k4 : w.cell? ⟨tb, 7, none⟩ = some (.int .i64 0) := by rw [cells_of hb]; rfl
  have z4 := free_of hb 7
  have k5 : w.cell? ⟨tb, 8, none⟩ = some (.int .i64 0) := by rw [cells_of hb]; rfl
  have z5 := free_of hb 8
  have k6 : w.cell? ⟨tb, 9, none⟩ = some (.int .i64 0) := by rw [cells_of hb]; rfl
  have z6 := free_of hb 9
  have k7 : w.cell? ⟨tb, 10, none⟩ = some (.int .i64 0) := by rw [cells_of hb]; rfl
  have z7 := free_of hb 10
  have k8 : w.cell? ⟨tb, 11, none⟩ = some (.int .i64 0) := by rw [cells_of hb]; rfl
  have z8 := free_of hb 11
  have k9 : w.cell? ⟨tb, 12, none⟩ = some (.int .i64 0) := by rw [cells_of hb]; rfl
  have z9 := free_of hb 12
  have k10 : w.cell? ⟨tb, 13, none⟩ = some (.int .i64 0) := by rw [cells_of hb]; rfl
  have z10 := free_of hb 13
  have k11 : w.cell? ⟨tb, 14, none⟩ = some (.int .i64 0) := by rw [cells_of hb]; rfl
  have z11 := free_of hb 14
  have k12 : w.cell? ⟨tb, 15, none⟩ = some (.int .i64 0) := by rw [cells_of hb]; rfl
  have z12 := free_of hb 15
  have k13 : w.cell? ⟨tb, 16, none⟩ = some (.int .i64 0) := by rw [cells_of hb]; rfl
  have z13 := free_of hb 16
  have k14 : w.cell? ⟨tb, 17, none⟩ = some (.int .i64 0) := by rw [cells_of hb]; rfl
  have z14 := free_of hb 17
  have k15 : w.cell? ⟨tb, 18, none⟩ = some (.int .i64 0) := by rw [cells_of hb]; rfl
  have z15 := free_of hb 18
  have k16 : w.cell? ⟨tb, 19, none⟩ = some (.int .i64 0) := by rw [cells_of hb]; rfl
  have z16 := free_of hb 19
  have k17 : w.cell? ⟨tb, 20, none⟩ = some (.int .i64 0) := by rw [cells_of hb]; rfl
  have z17 := free_of hb 20
  have Hb := Lib.hid hb
  clear hb hx
  go_enter Tryz.func91, Tryz.ntmps91
  go_wp2
  go_region_held3 (fun w' => w'.cell? ⟨bx, 0, none⟩ = some (.pointer (some ⟨tb, 0, none⟩))) ((repeat (first | with_reducible assumption | (with_reducible refine cell_set ?_ (by simpa using hne)) | with_reducible refine cell_drew ?_))) (fail)
  have W1 : Hid (((((((((w.setCell ⟨tb, 3, none⟩ (.int .i64 1)).setCell ⟨tb, 4, none⟩ (.int .i64 8)).setCell ⟨tb, 5, none⟩ (.int .i64 4)).setCell ⟨tb, 6, none⟩ (.int .i64 8)).setCell ⟨tb, 7, none⟩ (.int .i64 0)).setCell ⟨tb, 8, none⟩ (.int .i64 2)).setCell ⟨tb, 9, none⟩ (.int .i64 (-1000))).setCell ⟨tb, 10, none⟩ (.int .i64 1000)).heap[tb]? = some (.cells (onceCells (.int .u32 0) (.int .i32 1) (rgRest [1, 8, 4, 8, 0, 2, -1000, 1000, 0, 0, 0, 0, 0, 0, 0, 0, 0, 0])) 150 (0, 0))) := Lib.hid (heap_set_same (i := 10) (.int .i64 1000) (heap_set_same (i := 9) (.int .i64 (-1000)) (heap_set_same (i := 8) (.int .i64 2) (heap_set_same (i := 7) (.int .i64 0) (heap_set_same (i := 6) (.int .i64 8) (heap_set_same (i := 5) (.int .i64 4) (heap_set_same (i := 4) (.int .i64 8) (heap_set_same (i := 3) (.int .i64 1) Hb.out))))))))
  have O1 : Hid (Only [tb] w ((((((((w.setCell ⟨tb, 3, none⟩ (.int .i64 1)).setCell ⟨tb, 4, none⟩ (.int .i64 8)).setCell ⟨tb, 5, none⟩ (.int .i64 4)).setCell ⟨tb, 6, none⟩ (.int .i64 8)).setCell ⟨tb, 7, none⟩ (.int .i64 0)).setCell ⟨tb, 8, none⟩ (.int .i64 2)).setCell ⟨tb, 9, none⟩ (.int .i64 (-1000))).setCell ⟨tb, 10, none⟩ (.int .i64 1000))) := Lib.hid (((((((((Only.refl [tb] w).setCell (p := ⟨tb, 3, none⟩) (.inl (by simp)) (.int .i64 1)).setCell (p := ⟨tb, 4, none⟩) (.inl (by simp)) (.int .i64 8)).setCell (p := ⟨tb, 5, none⟩) (.inl (by simp)) (.int .i64 4)).setCell (p := ⟨tb, 6, none⟩) (.inl (by simp)) (.int .i64 8)).setCell (p := ⟨tb, 7, none⟩) (.inl (by simp)) (.int .i64 0)).setCell (p := ⟨tb, 8, none⟩) (.inl (by simp)) (.int .i64 2)).setCell (p := ⟨tb, 9, none⟩) (.inl (by simp)) (.int .i64 (-1000))).setCell (p := ⟨tb, 10, none⟩) (.inl (by simp)) (.int .i64 1000))
  generalize ((((((((w.setCell ⟨tb, 3, none⟩ (.int .i64 1)).setCell ⟨tb, 4, none⟩ (.int .i64 8)).setCell ⟨tb, 5, none⟩ (.int .i64 4)).setCell ⟨tb, 6, none⟩ (.int .i64 8)).setCell ⟨tb, 7, none⟩ (.int .i64 0)).setCell ⟨tb, 8, none⟩ (.int .i64 2)).setCell ⟨tb, 9, none⟩ (.int .i64 (-1000))).setCell ⟨tb, 10, none⟩ (.int .i64 1000)) = w1 at *
  have d0 : w1.cell? ⟨bx, 0, none⟩ = some (.pointer (some ⟨tb, 0, none⟩)) := O1.out.cell c0 (by simpa using hne)
  clear c0 k0 z0 k1 z1 k2 z2 k3 z3 k4 z4 k5 z5 k6 z6 k7 z7 k8 z8 k9 z9 k10 z10 k11 z11 k12 z12 k13 z13 k14 z14 k15 z15 k16 z16 k17 z17
  have k8 : w1.cell? ⟨tb, 11, none⟩ = some (.int .i64 0) := by rw [cells_of W1.out]; rfl
  have z8 := free_of W1.out 11
  have k9 : w1.cell? ⟨tb, 12, none⟩ = some (.int .i64 0) := by rw [cells_of W1.out]; rfl
  have z9 := free_of W1.out 12
  have k10 : w1.cell? ⟨tb, 13, none⟩ = some (.int .i64 0) := by rw [cells_of W1.out]; rfl
  have z10 := free_of W1.out 13
  have k11 : w1.cell? ⟨tb, 14, none⟩ = some (.int .i64 0) := by rw [cells_of W1.out]; rfl
  have z11 := free_of W1.out 14
  have k12 : w1.cell? ⟨tb, 15, none⟩ = some (.int .i64 0) := by rw [cells_of W1.out]; rfl
  have z12 := free_of W1.out 15
  have k13 : w1.cell? ⟨tb, 16, none⟩ = some (.int .i64 0) := by rw [cells_of W1.out]; rfl
  have z13 := free_of W1.out 16
  have k14 : w1.cell? ⟨tb, 17, none⟩ = some (.int .i64 0) := by rw [cells_of W1.out]; rfl
  have z14 := free_of W1.out 17
  have k15 : w1.cell? ⟨tb, 18, none⟩ = some (.int .i64 0) := by rw [cells_of W1.out]; rfl
  have z15 := free_of W1.out 18
  have k16 : w1.cell? ⟨tb, 19, none⟩ = some (.int .i64 0) := by rw [cells_of W1.out]; rfl
  have z16 := free_of W1.out 19
  have k17 : w1.cell? ⟨tb, 20, none⟩ = some (.int .i64 0) := by rw [cells_of W1.out]; rfl
  have z17 := free_of W1.out 20
  go_wp2
  go_region_held3 (fun w' => w'.cell? ⟨bx, 0, none⟩ = some (.pointer (some ⟨tb, 0, none⟩))) ((repeat (first | with_reducible assumption | (with_reducible refine cell_set ?_ (by simpa using hne)) | with_reducible refine cell_drew ?_))) (fail)
  have W2 : Hid (((((((((((w1.setCell ⟨tb, 11, none⟩ (.int .i64 1)).setCell ⟨tb, 12, none⟩ (.int .i64 8)).setCell ⟨tb, 13, none⟩ (.int .i64 0)).setCell ⟨tb, 14, none⟩ (.int .i64 2)).setCell ⟨tb, 15, none⟩ (.int .i64 0)).setCell ⟨tb, 16, none⟩ (.int .i64 51)).setCell ⟨tb, 17, none⟩ (.int .i64 (-12))).setCell ⟨tb, 18, none⟩ (.int .i64 12)).setCell ⟨tb, 19, none⟩ (.int .i64 0)).setCell ⟨tb, 20, none⟩ (.int .i64 4)).heap[tb]? = some (.cells (onceCells (.int .u32 0) (.int .i32 1) (rgRest rgL)) 150 (0, 0))) := Lib.hid (heap_set_same (i := 20) (.int .i64 4) (heap_set_same (i := 19) (.int .i64 0) (heap_set_same (i := 18) (.int .i64 12) (heap_set_same (i := 17) (.int .i64 (-12)) (heap_set_same (i := 16) (.int .i64 51) (heap_set_same (i := 15) (.int .i64 0) (heap_set_same (i := 14) (.int .i64 2) (heap_set_same (i := 13) (.int .i64 0) (heap_set_same (i := 12) (.int .i64 8) (heap_set_same (i := 11) (.int .i64 1) W1.out))))))))))
  have O2 : Hid (Only [tb] w ((((((((((w1.setCell ⟨tb, 11, none⟩ (.int .i64 1)).setCell ⟨tb, 12, none⟩ (.int .i64 8)).setCell ⟨tb, 13, none⟩ (.int .i64 0)).setCell ⟨tb, 14, none⟩ (.int .i64 2)).setCell ⟨tb, 15, none⟩ (.int .i64 0)).setCell ⟨tb, 16, none⟩ (.int .i64 51)).setCell ⟨tb, 17, none⟩ (.int .i64 (-12))).setCell ⟨tb, 18, none⟩ (.int .i64 12)).setCell ⟨tb, 19, none⟩ (.int .i64 0)).setCell ⟨tb, 20, none⟩ (.int .i64 4))) := Lib.hid ((((((((((O1.out.setCell (p := ⟨tb, 11, none⟩) (.inl (by simp)) (.int .i64 1)).setCell (p := ⟨tb, 12, none⟩) (.inl (by simp)) (.int .i64 8)).setCell (p := ⟨tb, 13, none⟩) (.inl (by simp)) (.int .i64 0)).setCell (p := ⟨tb, 14, none⟩) (.inl (by simp)) (.int .i64 2)).setCell (p := ⟨tb, 15, none⟩) (.inl (by simp)) (.int .i64 0)).setCell (p := ⟨tb, 16, none⟩) (.inl (by simp)) (.int .i64 51)).setCell (p := ⟨tb, 17, none⟩) (.inl (by simp)) (.int .i64 (-12))).setCell (p := ⟨tb, 18, none⟩) (.inl (by simp)) (.int .i64 12)).setCell (p := ⟨tb, 19, none⟩) (.inl (by simp)) (.int .i64 0)).setCell (p := ⟨tb, 20, none⟩) (.inl (by simp)) (.int .i64 4))
  generalize ((((((((((w1.setCell ⟨tb, 11, none⟩ (.int .i64 1)).setCell ⟨tb, 12, none⟩ (.int .i64 8)).setCell ⟨tb, 13, none⟩ (.int .i64 0)).setCell ⟨tb, 14, none⟩ (.int .i64 2)).setCell ⟨tb, 15, none⟩ (.int .i64 0)).setCell ⟨tb, 16, none⟩ (.int .i64 51)).setCell ⟨tb, 17, none⟩ (.int .i64 (-12))).setCell ⟨tb, 18, none⟩ (.int .i64 12)).setCell ⟨tb, 19, none⟩ (.int .i64 0)).setCell ⟨tb, 20, none⟩ (.int .i64 4)) = w2 at *
  go_wp2
  go_end0
  exact ⟨rfl, W2.out, O2.out.drew.drew⟩

set_option maxRecDepth 100000 in
set_option maxHeartbeats 1600000 in
theorem rg_get (tb : Nat) (w : World) (hb : w.heap[tb]? = some (.cells (onceCells (.int .u32 0) (.int .i32 0) (rgRest (List.replicate 18 0))) 150 (0, 0))) :
    Calls Tryz.prog 60 #[.pointer (some ⟨tb, 0, none⟩)] w fun e w' => e = .returned (.pointer (some ⟨tb, 0, none⟩)) ∧ w'.heap[tb]? = some (.cells (onceCells (.int .u32 1) (.int .i32 0) (rgRest rgL)) 150 (0, 0)) ∧ Only [tb] w w' := by
  have hlt := lt_of_block hb
  have hmf : ∀ (fn : Fn) (first cap : Array Value) (w : World), (Instr.makeFunc fn first cap).run Tryz.prog w = .ok (.func fn first cap) w := fun _ _ _ _ => rfl
  have hX := heap_alloc_at w (.cells #[.pointer (some ⟨tb, 0, none⟩)] 134)
  have hT := heap_alloc_lt (.cells #[.pointer (some ⟨tb, 0, none⟩)] 134) hb
  have hO : Only [] w (w.alloc (.cells #[.pointer (some ⟨tb, 0, none⟩)] 134)) := (Only.refl [] w).alloc _
  have hdo := once_table 91 #[.pointer (some ⟨w.heap.size, 0, none⟩)] (fun w => run_enter Tryz.func91 (by kernel_rfl) (by kernel_rfl) _ w) _ tb 150 _ (rgRest rgL) hT
    (fun w' h1 h2 => rg_fill w.heap.size tb w' (h2.heap hX (by simp; omega)) h1)
  have Hdo := Lib.hid hdo
  have HX := Lib.hid hX
  have HO := Lib.hid hO
  clear hdo hX hT hO hb
  go_enter Tryz.func60, Tryz.ntmps60
  go_wp2_with fail
  refine Hdo.out.mono ?_
  rintro e w1 ⟨rfl, h1, h2⟩
  have W1 := Lib.hid h1
  have c1 : w1.cell? ⟨w.heap.size, 0, none⟩ = some (.pointer (some ⟨tb, 0, none⟩)) := by rw [cells_of (h2.heap HX.out (by simp; omega))]; rfl
  have O1 := Lib.hid ((HO.out.mono (T := [tb]) (by simp)).trans h2)
  clear h1 h2
  go_wp2
  go_ret
  exact ⟨rfl, W1.out, O1.out⟩

theorem span_has (lo hi x : Int) (w : World) : Calls Tryz.prog 61 #[.agg #[.int .i64 lo, .int .i64 hi], .int .i64 x] w fun e w' => e = .returned (.bool (decide (lo ≤ x ∧ x ≤ hi))) ∧ Only [] w w' := by
  by_cases h1 : lo ≤ x
  · by_cases h2 : x ≤ hi
    · have e : decide (lo ≤ x ∧ x ≤ hi) = true := by simp [h1, h2]
      rw [e]
      go_enter Tryz.func61, Tryz.ntmps61
      go_wp2
      go_ret
      exact ⟨rfl, (Only.refl [] w).alloc _⟩
    · have e : decide (lo ≤ x ∧ x ≤ hi) = false := by simp [h2]
      rw [e]
      have h3 : hi < x := by omega
      go_enter Tryz.func61, Tryz.ntmps61
      go_wp2
      go_ret
      exact ⟨rfl, (Only.refl [] w).alloc _⟩
  · have e : decide (lo ≤ x ∧ x ≤ hi) = false := by simp [h1]
    rw [e]
    have h3 : x < lo := by omega
    go_enter Tryz.func61, Tryz.ntmps61
    go_wp2
    go_ret
    exact ⟨rfl, (Only.refl [] w).alloc _⟩
end Go.Proofs.YtcmehedjdfopdaaGreat

namespace Go.Proofs.YtcmehedjdfopdaaGreat
open Go.RowKit

theorem span_yes (lo hi x : Int) (h1 : lo ≤ x) (h2 : x ≤ hi) (w : World) : Calls Tryz.prog 61 #[.agg #[.int .i64 lo, .int .i64 hi], .int .i64 x] w fun e w' => e = .returned (.bool true) ∧ Only [] w w' := by
  have h := span_has lo hi x w
  rwa [show decide (lo ≤ x ∧ x ≤ hi) = true by simp [h1, h2]] at h

set_option maxRecDepth 100000 in
set_option maxHeartbeats 1600000 in
theorem may_pps (ca we co de : Bool) (bp qp : Int) (p0 : 0 ≤ bp) (p1 : bp ≤ 2) (q0 : 0 ≤ qp) (q1 : qp ≤ 51) (w : World) :
    Calls Tryz.prog 36 #[.agg #[.bool ca, .bool we, .int .i64 bp, .int .i64 qp, .int .i64 0, .bool co, .bool de, .int .i64 1, .int .i64 1]] w fun e w' => e = .returned (.bool true) ∧ Only [] w w' := by
  have h1 := span_yes 0 2 bp p0 p1
  have h2 := span_yes 0 51 qp q0 q1
  have h3 := span_yes (-12) 12 0 (by omega) (by omega)
  have h4 := span_yes 1 8 1 (by omega) (by omega)
  have H1 := Lib.hid h1
  have H2 := Lib.hid h2
  have H3 := Lib.hid h3
  have H4 := Lib.hid h4
  clear h1 h2 h3 h4
  have B0 := Lib.hid (heap_alloc_at w (.cells #[.bool ca, .bool we, .int .i64 bp, .int .i64 qp, .int .i64 0, .bool co, .bool de, .int .i64 1, .int .i64 1] 32))
  have O0 : Hid (Only [] w (w.alloc (.cells #[.bool ca, .bool we, .int .i64 bp, .int .i64 qp, .int .i64 0, .bool co, .bool de, .int .i64 1, .int .i64 1] 32))) := Lib.hid ((Only.refl [] w).alloc _)
  go_enter Tryz.func36, Tryz.ntmps36
  go_wp2_with fail
  refine (rg_get (w.heap.size + 1) _ (heap_alloc2_new w _ _)).mono ?_
  rintro e w1 ⟨rfl, g1, g2⟩
  have T1 := Lib.hid g1
  have hpl := lt_of_block B0.out
  have B1 := Lib.hid (g2.heap (heap_alloc_lt _ B0.out) (by simp))
  have O1 : Hid (Only [] w w1) := Lib.hid ((O0.out.alloc _).trans' g2 (fun i hi => .inr (by simp only [List.mem_singleton] at hi; omega)))
  have b0 : w1.cell? ⟨w.heap.size + 1, 13, none⟩ = some (.int .i64 0) := by rw [cells_of T1.out]; rfl
  have b1 : w1.cell? ⟨w.heap.size + 1, 14, none⟩ = some (.int .i64 2) := by rw [cells_of T1.out]; rfl
  have b2 : w1.cell? ⟨w.heap.size + 1, 15, none⟩ = some (.int .i64 0) := by rw [cells_of T1.out]; rfl
  have b3 : w1.cell? ⟨w.heap.size + 1, 16, none⟩ = some (.int .i64 51) := by rw [cells_of T1.out]; rfl
  have b4 : w1.cell? ⟨w.heap.size + 1, 17, none⟩ = some (.int .i64 (-12)) := by rw [cells_of T1.out]; rfl
  have b5 : w1.cell? ⟨w.heap.size + 1, 18, none⟩ = some (.int .i64 12) := by rw [cells_of T1.out]; rfl
  have b6 : w1.cell? ⟨w.heap.size + 1, 11, none⟩ = some (.int .i64 1) := by rw [cells_of T1.out]; rfl
  have b7 : w1.cell? ⟨w.heap.size + 1, 12, none⟩ = some (.int .i64 8) := by rw [cells_of T1.out]; rfl
  have b8 : w1.cell? ⟨w.heap.size, 2, none⟩ = some (.int .i64 bp) := by rw [cells_of B1.out]; rfl
  have b9 : w1.cell? ⟨w.heap.size, 3, none⟩ = some (.int .i64 qp) := by rw [cells_of B1.out]; rfl
  have b10 : w1.cell? ⟨w.heap.size, 4, none⟩ = some (.int .i64 0) := by rw [cells_of B1.out]; rfl
  have b11 : w1.cell? ⟨w.heap.size, 7, none⟩ = some (.int .i64 1) := by rw [cells_of B1.out]; rfl
  have b12 : w1.cell? ⟨w.heap.size, 8, none⟩ = some (.int .i64 1) := by rw [cells_of B1.out]; rfl
  have OC : Hid (Only [] w1 w1) := Lib.hid (Only.refl [] w1)
  clear g1 g2 T1 B1 B0 O0 hpl
  go_wp2_with fail
  go_region_held3 (fun w' => w'.cell? ⟨w.heap.size + 1, 13, none⟩ = some (.int .i64 0) ∧ w'.cell? ⟨w.heap.size + 1, 14, none⟩ = some (.int .i64 2) ∧ w'.cell? ⟨w.heap.size + 1, 15, none⟩ = some (.int .i64 0) ∧ w'.cell? ⟨w.heap.size + 1, 16, none⟩ = some (.int .i64 51) ∧ w'.cell? ⟨w.heap.size + 1, 17, none⟩ = some (.int .i64 (-12)) ∧ w'.cell? ⟨w.heap.size + 1, 18, none⟩ = some (.int .i64 12) ∧ w'.cell? ⟨w.heap.size + 1, 11, none⟩ = some (.int .i64 1) ∧ w'.cell? ⟨w.heap.size + 1, 12, none⟩ = some (.int .i64 8) ∧ w'.cell? ⟨w.heap.size, 2, none⟩ = some (.int .i64 bp) ∧ w'.cell? ⟨w.heap.size, 3, none⟩ = some (.int .i64 qp) ∧ w'.cell? ⟨w.heap.size, 4, none⟩ = some (.int .i64 0) ∧ w'.cell? ⟨w.heap.size, 7, none⟩ = some (.int .i64 1) ∧ w'.cell? ⟨w.heap.size, 8, none⟩ = some (.int .i64 1)) ((refine ⟨?_, ?_, ?_, ?_, ?_, ?_, ?_, ?_, ?_, ?_, ?_, ?_, ?_⟩ <;> (repeat (first | with_reducible assumption | with_reducible refine cell_drew ?_))))
    (((first
        | (with_reducible refine (H1.out _).mono ?_)
        | (with_reducible refine (H2.out _).mono ?_)
        | (with_reducible refine (H3.out _).mono ?_)
        | (with_reducible refine (H4.out _).mono ?_))
      rintro rr wn ⟨rfl, gn⟩
      have OD : Hid (Only [] w1 wn) := Lib.hid (by with_reducible first | exact OC.out.trans gn | exact OC.out.drew.trans gn)
      clear OC gn
      have OC := OD
      clear OD
      have f0 := OC.out.cell b0 (by simp)
      have f1 := OC.out.cell b1 (by simp)
      have f2 := OC.out.cell b2 (by simp)
      have f3 := OC.out.cell b3 (by simp)
      have f4 := OC.out.cell b4 (by simp)
      have f5 := OC.out.cell b5 (by simp)
      have f6 := OC.out.cell b6 (by simp)
      have f7 := OC.out.cell b7 (by simp)
      have f8 := OC.out.cell b8 (by simp)
      have f9 := OC.out.cell b9 (by simp)
      have f10 := OC.out.cell b10 (by simp)
      have f11 := OC.out.cell b11 (by simp)
      have f12 := OC.out.cell b12 (by simp)))
  have OF : Hid (Only [] w wn) := Lib.hid (O1.out.trans OC.out)
  go_wp2
  go_ret
  exact ⟨rfl, OF.out⟩
end Go.Proofs.YtcmehedjdfopdaaGreat

namespace Go.Proofs.YtcmehedjdfopdaaGreat
open Go.RowKit

/-- A cell that is written with what it holds. -/
theorem setCell_same {w : World} {b i : Nat} {cs : Array Value} {T : TypeId} {f : Nat × Nat} {v : Value} (h : w.heap[b]? = some (.cells cs T f)) (hv : cs[i]? = some v) : w.setCell ⟨b, i, none⟩ v = w := by
  have hlt : i < cs.size := (Array.getElem?_eq_some_iff.1 hv).1
  have hcs : cs.setIfInBounds i v = cs := by
    apply Array.ext_getElem?
    intro j
    rw [Array.getElem?_setIfInBounds]
    by_cases hj : i = j
    · subst hj; rw [if_pos rfl, if_pos hlt, hv]
    · rw [if_neg hj]
  have hh : (w.setCell ⟨b, i, none⟩ v).heap = w.heap := by
    apply Array.ext_getElem?
    intro j
    by_cases hj : b = j
    · subst hj; rw [heap_set_same v h, h, hcs]
    · simp only [World.setCell, Array.getElem?_modify, if_neg hj]
  have h2 : w.setCell ⟨b, i, none⟩ v = { w with heap := (w.setCell ⟨b, i, none⟩ v).heap } := rfl
  rw [h2, hh]

theorem clone_pics0 (w : World) : Calls Tryz.prog 64 #[.slice none 0 0] w fun e w' => e = .returned (.slice none 0 0) ∧ w = w' := by
  have q22 : ∀ (w : World) (a : Option Addr) (n c n' c' : Nat), (binOp .eql 70 (.slice a n c) (.slice none n' c')).run Tryz.prog w = .ok (.bool a.isNone) w := fun w a n c n' c' => Lib.run_eql_slice_nil w _ _ a n c n' c' Tryz.underlying70
  go_enter Tryz.func64, Tryz.ntmps64
  go_wp2
  go_ret
  exact ⟨rfl, rfl⟩
theorem clone_ws0 (w : World) : Calls Tryz.prog 39 #[.slice none 0 0] w fun e w' => e = .returned (.slice none 0 0) ∧ w = w' := by
  have q22 : ∀ (w : World) (a : Option Addr) (n c n' c' : Nat), (binOp .eql 24 (.slice a n c) (.slice none n' c')).run Tryz.prog w = .ok (.bool a.isNone) w := fun w a n c n' c' => Lib.run_eql_slice_nil w _ _ a n c n' c' Tryz.underlying24
  go_enter Tryz.func39, Tryz.ntmps39
  go_wp2
  go_ret
  exact ⟨rfl, rfl⟩
set_option maxRecDepth 100000 in
set_option maxHeartbeats 800000 in
theorem pictures0 (cb : Nat) (w : World) : Calls Tryz.prog 38 #[.pointer (some ⟨cb, 0, none⟩), .slice none 0 0, .int .i64 0] w fun e w' => e = .returned (.tuple #[.slice none 0 0, .bool true]) ∧ w = w' := by
  go_enter Tryz.func38, Tryz.ntmps38
  go_wp2_with fail
  refine (clone_pics0 _).mono ?_
  rintro e w' ⟨rfl, rfl⟩
  go_wp2
  go_loop [22] (fun q => q = .int .i64 0) (fun _ => 0)
  case atStart => rfl
  case round =>
    subst hrel
    go_wp2
    go_ret2
    exact ⟨rfl, rfl⟩
end Go.Proofs.YtcmehedjdfopdaaGreat
