/-
  The walks over package syntax's Told and Refs for skipped macroblocks.
-/
import Derived.Test.YtcmehedjdfopdaaGreatJ21
namespace Go.Proofs.YtcmehedjdfopdaaGreat
open Go.RowKit

theorem eq_vec (x y : Int) (w : World) : (Op.equalIn 9998 39 (.agg #[.int .i64 x, .int .i64 y]) (.agg #[.int .i64 x, .int .i64 y])).run Tryz.prog w = .ok true w := by
  go_simp
theorem eq_vecs (x y : Int) (w : World) : (Op.equalIn 9999 40 (.agg #[.int .i64 x, .int .i64 y, .int .i64 0, .int .i64 0]) (.agg #[.int .i64 x, .int .i64 y, .int .i64 0, .int .i64 0])).run Tryz.prog w = .ok true w := by
  have hv := eq_vec
  have hi := (show (Tryz.prog.info? 39).map (·.size) = some 2 by kernel_rfl)
  have hu := Tryz.underlying40
  cases hq : Tryz.prog.info? 39 with
  | none => simp [hq] at hi
  | some i =>
    have hs : i.size = 2 := by simpa [hq] using hi
    rw [show (9999 : Nat) = 9998 + 1 from rfl, Op.equalIn]
    simp [run_underlying hu, sizeOf, typeInfo, hq, hs, List.range', part, isAgg, run_underlying Tryz.underlying39, hv]
def partL (x y : Int) : List Value := [.int .i64 0, .int .i64 0, .int .i64 (-1), .int .i64 x, .int .i64 y, .int .i64 0, .int .i64 0]
def partsL (x y : Int) : List Value := [.int .i64 0, .int .i64 0, .int .i64 (-1), .int .i64 x, .int .i64 y, .int .i64 0, .int .i64 0, .int .i64 0, .int .i64 0, .int .i64 (-1), .int .i64 x, .int .i64 y, .int .i64 0, .int .i64 0, .int .i64 0, .int .i64 0, .int .i64 (-1), .int .i64 x, .int .i64 y, .int .i64 0, .int .i64 0, .int .i64 0, .int .i64 0, .int .i64 (-1), .int .i64 x, .int .i64 y, .int .i64 0, .int .i64 0]
theorem index_partsL (x y : Int) (k : Nat) (hk : k < 4) (w : World) : (Instr.index 43 (.agg (partsL x y ).toArray) (.int .i64 k)).run Tryz.prog w = .ok (.agg #[.int .i64 0, .int .i64 0, .int .i64 (-1), .int .i64 x, .int .i64 y, .int .i64 0, .int .i64 0]) w := by
  obtain rfl | rfl | rfl | rfl : k = 0 ∨ k = 1 ∨ k = 2 ∨ k = 3 := by omega
  all_goals kernel_rfl
theorem equal_partL (x y : Int) (w : World) : (Op.equalIn 10000 42 (.agg #[.int .i64 0, .int .i64 0, .int .i64 (-1), .int .i64 x, .int .i64 y, .int .i64 0, .int .i64 0]) (.agg #[.int .i64 0, .int .i64 0, .int .i64 (-1), .int .i64 x, .int .i64 y, .int .i64 0, .int .i64 0])).run Tryz.prog w = .ok true w := by
  have h1 : ∀ w, (Op.equalIn 9999 37 (.agg #[.int .i64 0, .int .i64 (-1)]) (.agg #[.int .i64 0, .int .i64 (-1)])).run Tryz.prog w = .ok true w := fun _ => by kernel_rfl
  have h2 := eq_vecs x y
  go_simp

set_option maxRecDepth 100000 in
set_option maxHeartbeats 1600000 in
theorem sy_toldL (Mc Hc : Array Value) (x y : Int) (x0 : 0 ≤ x) (x1 : x ≤ 31) (y0 : 0 ≤ y) (y1 : y ≤ 31) (w : World) (hM : MbIs Mc 3 0 0 0 0 (.slice none 0 0) z16 (partsL x y )) (hH : Hc[2]? = some (.int .i64 0)) :
    Calls Tryz.prog 27 #[.agg Mc, .agg Hc] w fun e w' => e = .returned (.bool true) ∧ Only [] w w' := by
  have HM := Lib.hid hM
  have A0 := Lib.hid (heap_alloc2_old w (.cells Mc 48) (.cells Hc 27))
  have A1 := Lib.hid (heap_alloc2_new w (.cells Mc 48) (.cells Hc 27))
  have OA : Hid (Only [] w ((w.alloc (.cells Mc 48)).alloc (.cells Hc 27))) := Lib.hid (((Only.refl [] w).alloc _).alloc _)
  have f1 : ((w.alloc (.cells Mc 48)).alloc (.cells Hc 27)).cell? ⟨w.heap.size + 1, 2, none⟩ = some (.int .i64 0) := by rw [cells_of A1.out]; exact hH
  have hpa := (show (Tryz.prog.info? 43).map (·.size) = some (partsL x y ).length by kernel_rfl)
  have HH := Lib.hid hH
  clear hM hH
  go_enter Tryz.func27, Tryz.ntmps27
  go_wp2_with fail
  refine (sy_bodyS _ 0 (by decide) _ (HM.out.at A0.out) (HM.out.modes A0.out)).mono ?_
  rintro e w1 ⟨rfl, o1⟩
  have B0 := Lib.hid (o1.heap A0.out (by simp))
  have B1 := Lib.hid (o1.heap A1.out (by simp))
  have O1 := Lib.hid (OA.out.trans o1)
  have e0 := (HM.out.at B0.out).k0
  have hp := HM.out.parts B0.out
  have HP := Lib.hid hp
  have HPA := Lib.hid hpa
  have hz := lt_of_block B1.out
  clear o1 f1 hp hpa OA
  go_wp2_with (with_reducible refine wpList_load_mid rfl _ _ rfl w.heap.size 20 rfl (partsL x y ) _ HP.out Tryz.underlying43 rfl HPA.out ?_)
  have hix := index_partsL x y 
  have HIX := Lib.hid hix
  clear hix
  generalize (partsL x y ).toArray = PA at *
  go_loopw [23] (fun q wr => ∃ k : Nat, k ≤ 4 ∧ q = .int .i64 k ∧ Only [] w1 wr) (fun q _ => 4 - (intOf q).toNat)
  case atStart => exact ⟨0, by omega, rfl, Only.refl _ _⟩
  case round =>
    obtain ⟨k, hk, rfl, ho⟩ := hrel
    by_cases hlt : k < 4
    · have hi := HIX.out k hlt
      have heq := equal_partL x y 
      have f2 : wr.cell? ⟨w.heap.size + 1, 2, none⟩ = some (.int .i64 0) := by rw [cells_of (ho.heap B1.out (by simp))]; exact HH.out
      have f3 := cell_alloc (o := (.cells #[.int .i64 0, .int .i64 0, .int .i64 (-1), .int .i64 x, .int .i64 y, .int .i64 0, .int .i64 0] 42)) f2
      have p0 : wr.cell? ⟨w.heap.size, 20, none⟩ = some (.int .i64 0) := ho.cell (HP.out 0 _ rfl) (by simp)
      have r0 := cell_alloc (o := (.cells #[.int .i64 0, .int .i64 0, .int .i64 (-1), .int .i64 x, .int .i64 y, .int .i64 0, .int .i64 0] 42)) p0
      have p1 : wr.cell? ⟨w.heap.size, 21, none⟩ = some (.int .i64 0) := ho.cell (HP.out 1 _ rfl) (by simp)
      have r1 := cell_alloc (o := (.cells #[.int .i64 0, .int .i64 0, .int .i64 (-1), .int .i64 x, .int .i64 y, .int .i64 0, .int .i64 0] 42)) p1
      have p2 : wr.cell? ⟨w.heap.size, 22, none⟩ = some (.int .i64 (-1)) := ho.cell (HP.out 2 _ rfl) (by simp)
      have r2 := cell_alloc (o := (.cells #[.int .i64 0, .int .i64 0, .int .i64 (-1), .int .i64 x, .int .i64 y, .int .i64 0, .int .i64 0] 42)) p2
      have p3 : wr.cell? ⟨w.heap.size, 23, none⟩ = some (.int .i64 x) := ho.cell (HP.out 3 _ rfl) (by simp)
      have r3 := cell_alloc (o := (.cells #[.int .i64 0, .int .i64 0, .int .i64 (-1), .int .i64 x, .int .i64 y, .int .i64 0, .int .i64 0] 42)) p3
      have p4 : wr.cell? ⟨w.heap.size, 24, none⟩ = some (.int .i64 y) := ho.cell (HP.out 4 _ rfl) (by simp)
      have r4 := cell_alloc (o := (.cells #[.int .i64 0, .int .i64 0, .int .i64 (-1), .int .i64 x, .int .i64 y, .int .i64 0, .int .i64 0] 42)) p4
      have p5 : wr.cell? ⟨w.heap.size, 25, none⟩ = some (.int .i64 0) := ho.cell (HP.out 5 _ rfl) (by simp)
      have r5 := cell_alloc (o := (.cells #[.int .i64 0, .int .i64 0, .int .i64 (-1), .int .i64 x, .int .i64 y, .int .i64 0, .int .i64 0] 42)) p5
      have p6 : wr.cell? ⟨w.heap.size, 26, none⟩ = some (.int .i64 0) := ho.cell (HP.out 6 _ rfl) (by simp)
      have r6 := cell_alloc (o := (.cells #[.int .i64 0, .int .i64 0, .int .i64 (-1), .int .i64 x, .int .i64 y, .int .i64 0, .int .i64 0] 42)) p6
      have O2 := Lib.hid (ho.alloc (.cells #[.int .i64 0, .int .i64 0, .int .i64 (-1), .int .i64 x, .int .i64 y, .int .i64 0, .int .i64 0] 42))
      clear ho
      go_wp2_with fail
      refine (sy_partL x y x0 x1 y0 y1 _).mono ?_
      rintro e w2 ⟨rfl, o2⟩
      have O3 := Lib.hid (O2.out.trans o2)
      clear o2
      go_wp2
      go_roundw
      case rel => exact ⟨k + 1, by omega, by go_num, O3.out⟩
      case measure => simp [intOf] <;> omega
    · have O2 := Lib.hid (O1.out.trans ho)
      clear ho
      go_wp2
      go_ret
      exact ⟨rfl, O2.out⟩

set_option maxRecDepth 100000 in
set_option maxHeartbeats 1600000 in
theorem sy_refusedL (Mc Hc : Array Value) (x y : Int) (w : World) (hM : MbIs Mc 3 0 0 0 0 (.slice none 0 0) z16 (partsL x y )) (h7 : Hc[7]? = some (.int .i64 1)) (h8 : Hc[8]? = some (.int .i64 0)) :
    Calls Tryz.prog 28 #[.agg Mc, .agg Hc] w fun e w' => e = .returned (.bool true) ∧ Only [] w w' := by
  have HM := Lib.hid hM
  have A0 := Lib.hid (heap_alloc2_old w (.cells Mc 48) (.cells Hc 27))
  have A1 := Lib.hid (heap_alloc2_new w (.cells Mc 48) (.cells Hc 27))
  have OA : Hid (Only [] w ((w.alloc (.cells Mc 48)).alloc (.cells Hc 27))) := Lib.hid (((Only.refl [] w).alloc _).alloc _)
  have f0 : ((w.alloc (.cells Mc 48)).alloc (.cells Hc 27)).cell? ⟨w.heap.size, 0, none⟩ = some (.int .i64 3) := (HM.out.at A0.out).k0
  have hpa := (show (Tryz.prog.info? 43).map (·.size) = some (partsL x y ).length by kernel_rfl)
  have HPA := Lib.hid hpa
  have H7 := Lib.hid h7
  have H8 := Lib.hid h8
  have hp := HM.out.parts A0.out
  have HP := Lib.hid hp
  clear hM h7 h8 hpa hp
  go_enter Tryz.func28, Tryz.ntmps28
  go_wp2_with fail
  refine (sy_without _).mono ?_
  rintro e w1 ⟨rfl, hw⟩
  subst hw
  have hz := lt_of_block A1.out
  clear f0
  generalize (w.alloc (.cells Mc 48)).alloc (.cells Hc 27) = w1 at *
  go_wp2_with (with_reducible refine wpList_load_mid rfl _ _ rfl w.heap.size 20 rfl (partsL x y ) _ HP.out Tryz.underlying43 rfl HPA.out ?_)
  have hix := index_partsL x y 
  have HIX := Lib.hid hix
  clear hix
  generalize (partsL x y ).toArray = PA at *
  go_loopw [12] (fun q wr => ∃ k : Nat, k ≤ 4 ∧ q = .int .i64 k ∧ Only [] w1 wr) (fun q _ => 4 - (intOf q).toNat)
  case atStart => exact ⟨0, by omega, rfl, Only.refl _ _⟩
  case round =>
    obtain ⟨k, hk, rfl, ho⟩ := hrel
    by_cases hlt : k < 4
    · have hi := HIX.out k hlt
      have f7 : wr.cell? ⟨w.heap.size + 1, 7, none⟩ = some (.int .i64 1) := by rw [cells_of (ho.heap A1.out (by simp))]; exact H7.out
      have f8 : wr.cell? ⟨w.heap.size + 1, 8, none⟩ = some (.int .i64 0) := by rw [cells_of (ho.heap A1.out (by simp))]; exact H8.out
      have g7 := cell_alloc (o := (.cells #[.int .i64 0, .int .i64 0, .int .i64 (-1), .int .i64 x, .int .i64 y, .int .i64 0, .int .i64 0] 42)) f7
      have g8 := cell_alloc (o := (.cells #[.int .i64 0, .int .i64 0, .int .i64 (-1), .int .i64 x, .int .i64 y, .int .i64 0, .int .i64 0] 42)) f8
      have G7 := Lib.hid g7
      have G8 := Lib.hid g8
      have O2 := Lib.hid (ho.alloc (.cells #[.int .i64 0, .int .i64 0, .int .i64 (-1), .int .i64 x, .int .i64 y, .int .i64 0, .int .i64 0] 42))
      clear ho f7 f8 g7 g8
      go_wp2_with fail
      refine (sy_refsL x y _ _ G7.out G8.out).mono ?_
      rintro e w2 ⟨rfl, o2⟩
      have O3 := Lib.hid (O2.out.trans o2)
      clear o2
      go_wp2
      go_roundw
      case rel => exact ⟨k + 1, by omega, by go_num, O3.out⟩
      case measure => simp [intOf] <;> omega
    · have O2 := Lib.hid (OA.out.trans ho)
      clear ho
      go_wp2
      go_ret
      exact ⟨rfl, O2.out⟩
def partB : List Value := [.int .i64 2, .int .i64 0, .int .i64 0, .int .i64 0, .int .i64 0, .int .i64 0, .int .i64 0]
def partsB : List Value := [.int .i64 2, .int .i64 0, .int .i64 0, .int .i64 0, .int .i64 0, .int .i64 0, .int .i64 0, .int .i64 2, .int .i64 0, .int .i64 0, .int .i64 0, .int .i64 0, .int .i64 0, .int .i64 0, .int .i64 2, .int .i64 0, .int .i64 0, .int .i64 0, .int .i64 0, .int .i64 0, .int .i64 0, .int .i64 2, .int .i64 0, .int .i64 0, .int .i64 0, .int .i64 0, .int .i64 0, .int .i64 0]
theorem index_partsB (k : Nat) (hk : k < 4) (w : World) : (Instr.index 43 (.agg (partsB ).toArray) (.int .i64 k)).run Tryz.prog w = .ok (.agg #[.int .i64 2, .int .i64 0, .int .i64 0, .int .i64 0, .int .i64 0, .int .i64 0, .int .i64 0]) w := by
  obtain rfl | rfl | rfl | rfl : k = 0 ∨ k = 1 ∨ k = 2 ∨ k = 3 := by omega
  all_goals kernel_rfl
theorem equal_partB (w : World) : (Op.equalIn 10000 42 (.agg #[.int .i64 2, .int .i64 0, .int .i64 0, .int .i64 0, .int .i64 0, .int .i64 0, .int .i64 0]) (.agg #[.int .i64 2, .int .i64 0, .int .i64 0, .int .i64 0, .int .i64 0, .int .i64 0, .int .i64 0])).run Tryz.prog w = .ok true w := by
  kernel_rfl

set_option maxRecDepth 100000 in
set_option maxHeartbeats 1600000 in
theorem sy_toldB (Mc Hc : Array Value) (w : World) (hM : MbIs Mc 3 0 0 0 0 (.slice none 0 0) z16 (partsB )) (hH : Hc[2]? = some (.int .i64 1)) :
    Calls Tryz.prog 27 #[.agg Mc, .agg Hc] w fun e w' => e = .returned (.bool true) ∧ Only [] w w' := by
  have HM := Lib.hid hM
  have A0 := Lib.hid (heap_alloc2_old w (.cells Mc 48) (.cells Hc 27))
  have A1 := Lib.hid (heap_alloc2_new w (.cells Mc 48) (.cells Hc 27))
  have OA : Hid (Only [] w ((w.alloc (.cells Mc 48)).alloc (.cells Hc 27))) := Lib.hid (((Only.refl [] w).alloc _).alloc _)
  have f1 : ((w.alloc (.cells Mc 48)).alloc (.cells Hc 27)).cell? ⟨w.heap.size + 1, 2, none⟩ = some (.int .i64 1) := by rw [cells_of A1.out]; exact hH
  have hpa := (show (Tryz.prog.info? 43).map (·.size) = some (partsB ).length by kernel_rfl)
  have HH := Lib.hid hH
  clear hM hH
  go_enter Tryz.func27, Tryz.ntmps27
  go_wp2_with fail
  refine (sy_bodyS _ 1 (by decide) _ (HM.out.at A0.out) (HM.out.modes A0.out)).mono ?_
  rintro e w1 ⟨rfl, o1⟩
  have B0 := Lib.hid (o1.heap A0.out (by simp))
  have B1 := Lib.hid (o1.heap A1.out (by simp))
  have O1 := Lib.hid (OA.out.trans o1)
  have e0 := (HM.out.at B0.out).k0
  have hp := HM.out.parts B0.out
  have HP := Lib.hid hp
  have HPA := Lib.hid hpa
  have hz := lt_of_block B1.out
  clear o1 f1 hp hpa OA
  go_wp2_with (with_reducible refine wpList_load_mid rfl _ _ rfl w.heap.size 20 rfl (partsB ) _ HP.out Tryz.underlying43 rfl HPA.out ?_)
  have hix := index_partsB 
  have HIX := Lib.hid hix
  clear hix
  generalize (partsB ).toArray = PA at *
  go_loopw [23] (fun q wr => ∃ k : Nat, k ≤ 4 ∧ q = .int .i64 k ∧ Only [] w1 wr) (fun q _ => 4 - (intOf q).toNat)
  case atStart => exact ⟨0, by omega, rfl, Only.refl _ _⟩
  case round =>
    obtain ⟨k, hk, rfl, ho⟩ := hrel
    by_cases hlt : k < 4
    · have hi := HIX.out k hlt
      have heq := equal_partB 
      have f2 : wr.cell? ⟨w.heap.size + 1, 2, none⟩ = some (.int .i64 1) := by rw [cells_of (ho.heap B1.out (by simp))]; exact HH.out
      have f3 := cell_alloc (o := (.cells #[.int .i64 2, .int .i64 0, .int .i64 0, .int .i64 0, .int .i64 0, .int .i64 0, .int .i64 0] 42)) f2
      have p0 : wr.cell? ⟨w.heap.size, 20, none⟩ = some (.int .i64 2) := ho.cell (HP.out 0 _ rfl) (by simp)
      have r0 := cell_alloc (o := (.cells #[.int .i64 2, .int .i64 0, .int .i64 0, .int .i64 0, .int .i64 0, .int .i64 0, .int .i64 0] 42)) p0
      have p1 : wr.cell? ⟨w.heap.size, 21, none⟩ = some (.int .i64 0) := ho.cell (HP.out 1 _ rfl) (by simp)
      have r1 := cell_alloc (o := (.cells #[.int .i64 2, .int .i64 0, .int .i64 0, .int .i64 0, .int .i64 0, .int .i64 0, .int .i64 0] 42)) p1
      have p2 : wr.cell? ⟨w.heap.size, 22, none⟩ = some (.int .i64 0) := ho.cell (HP.out 2 _ rfl) (by simp)
      have r2 := cell_alloc (o := (.cells #[.int .i64 2, .int .i64 0, .int .i64 0, .int .i64 0, .int .i64 0, .int .i64 0, .int .i64 0] 42)) p2
      have p3 : wr.cell? ⟨w.heap.size, 23, none⟩ = some (.int .i64 0) := ho.cell (HP.out 3 _ rfl) (by simp)
      have r3 := cell_alloc (o := (.cells #[.int .i64 2, .int .i64 0, .int .i64 0, .int .i64 0, .int .i64 0, .int .i64 0, .int .i64 0] 42)) p3
      have p4 : wr.cell? ⟨w.heap.size, 24, none⟩ = some (.int .i64 0) := ho.cell (HP.out 4 _ rfl) (by simp)
      have r4 := cell_alloc (o := (.cells #[.int .i64 2, .int .i64 0, .int .i64 0, .int .i64 0, .int .i64 0, .int .i64 0, .int .i64 0] 42)) p4
      have p5 : wr.cell? ⟨w.heap.size, 25, none⟩ = some (.int .i64 0) := ho.cell (HP.out 5 _ rfl) (by simp)
      have r5 := cell_alloc (o := (.cells #[.int .i64 2, .int .i64 0, .int .i64 0, .int .i64 0, .int .i64 0, .int .i64 0, .int .i64 0] 42)) p5
      have p6 : wr.cell? ⟨w.heap.size, 26, none⟩ = some (.int .i64 0) := ho.cell (HP.out 6 _ rfl) (by simp)
      have r6 := cell_alloc (o := (.cells #[.int .i64 2, .int .i64 0, .int .i64 0, .int .i64 0, .int .i64 0, .int .i64 0, .int .i64 0] 42)) p6
      have O2 := Lib.hid (ho.alloc (.cells #[.int .i64 2, .int .i64 0, .int .i64 0, .int .i64 0, .int .i64 0, .int .i64 0, .int .i64 0] 42))
      clear ho
      go_wp2_with fail
      refine (sy_partB _).mono ?_
      rintro e w2 ⟨rfl, o2⟩
      have O3 := Lib.hid (O2.out.trans o2)
      clear o2
      go_wp2
      go_roundw
      case rel => exact ⟨k + 1, by omega, by go_num, O3.out⟩
      case measure => simp [intOf] <;> omega
    · have O2 := Lib.hid (O1.out.trans ho)
      clear ho
      go_wp2
      go_ret
      exact ⟨rfl, O2.out⟩

set_option maxRecDepth 100000 in
set_option maxHeartbeats 1600000 in
theorem sy_refusedB (Mc Hc : Array Value) (w : World) (hM : MbIs Mc 3 0 0 0 0 (.slice none 0 0) z16 (partsB )) (h7 : Hc[7]? = some (.int .i64 1)) (h8 : Hc[8]? = some (.int .i64 1)) :
    Calls Tryz.prog 28 #[.agg Mc, .agg Hc] w fun e w' => e = .returned (.bool true) ∧ Only [] w w' := by
  have HM := Lib.hid hM
  have A0 := Lib.hid (heap_alloc2_old w (.cells Mc 48) (.cells Hc 27))
  have A1 := Lib.hid (heap_alloc2_new w (.cells Mc 48) (.cells Hc 27))
  have OA : Hid (Only [] w ((w.alloc (.cells Mc 48)).alloc (.cells Hc 27))) := Lib.hid (((Only.refl [] w).alloc _).alloc _)
  have f0 : ((w.alloc (.cells Mc 48)).alloc (.cells Hc 27)).cell? ⟨w.heap.size, 0, none⟩ = some (.int .i64 3) := (HM.out.at A0.out).k0
  have hpa := (show (Tryz.prog.info? 43).map (·.size) = some (partsB ).length by kernel_rfl)
  have HPA := Lib.hid hpa
  have H7 := Lib.hid h7
  have H8 := Lib.hid h8
  have hp := HM.out.parts A0.out
  have HP := Lib.hid hp
  clear hM h7 h8 hpa hp
  go_enter Tryz.func28, Tryz.ntmps28
  go_wp2_with fail
  refine (sy_without _).mono ?_
  rintro e w1 ⟨rfl, hw⟩
  subst hw
  have hz := lt_of_block A1.out
  clear f0
  generalize (w.alloc (.cells Mc 48)).alloc (.cells Hc 27) = w1 at *
  go_wp2_with (with_reducible refine wpList_load_mid rfl _ _ rfl w.heap.size 20 rfl (partsB ) _ HP.out Tryz.underlying43 rfl HPA.out ?_)
  have hix := index_partsB 
  have HIX := Lib.hid hix
  clear hix
  generalize (partsB ).toArray = PA at *
  go_loopw [12] (fun q wr => ∃ k : Nat, k ≤ 4 ∧ q = .int .i64 k ∧ Only [] w1 wr) (fun q _ => 4 - (intOf q).toNat)
  case atStart => exact ⟨0, by omega, rfl, Only.refl _ _⟩
  case round =>
    obtain ⟨k, hk, rfl, ho⟩ := hrel
    by_cases hlt : k < 4
    · have hi := HIX.out k hlt
      have f7 : wr.cell? ⟨w.heap.size + 1, 7, none⟩ = some (.int .i64 1) := by rw [cells_of (ho.heap A1.out (by simp))]; exact H7.out
      have f8 : wr.cell? ⟨w.heap.size + 1, 8, none⟩ = some (.int .i64 1) := by rw [cells_of (ho.heap A1.out (by simp))]; exact H8.out
      have g7 := cell_alloc (o := (.cells #[.int .i64 2, .int .i64 0, .int .i64 0, .int .i64 0, .int .i64 0, .int .i64 0, .int .i64 0] 42)) f7
      have g8 := cell_alloc (o := (.cells #[.int .i64 2, .int .i64 0, .int .i64 0, .int .i64 0, .int .i64 0, .int .i64 0, .int .i64 0] 42)) f8
      have G7 := Lib.hid g7
      have G8 := Lib.hid g8
      have O2 := Lib.hid (ho.alloc (.cells #[.int .i64 2, .int .i64 0, .int .i64 0, .int .i64 0, .int .i64 0, .int .i64 0, .int .i64 0] 42))
      clear ho f7 f8 g7 g8
      go_wp2_with fail
      refine (sy_refsB _ _ G7.out G8.out).mono ?_
      rintro e w2 ⟨rfl, o2⟩
      have O3 := Lib.hid (O2.out.trans o2)
      clear o2
      go_wp2
      go_roundw
      case rel => exact ⟨k + 1, by omega, by go_num, O3.out⟩
      case measure => simp [intOf] <;> omega
    · have O2 := Lib.hid (OA.out.trans ho)
      clear ho
      go_wp2
      go_ret
      exact ⟨rfl, O2.out⟩
end Go.Proofs.YtcmehedjdfopdaaGreat
