/-
  The walk over package intra's Four: the mean, and what is refused.
-/
import Derived.Test.YtcmehedjdfopdaaGreatJ32
namespace Go.Proofs.YtcmehedjdfopdaaGreat
open Go.RowKit

theorem mo_range {w : World} {tb : Nat} (h : w.heap[tb]? = some (.cells (onceCells (.int .u32 1) (.int .i32 0) moL) 210 (0, 0))) (m : Nat) (o : Nat) (ho : o = 3 + m * 2) (u v : Value) (hu : moL[2 * m]? = some u) (hv : moL[2 * m + 1]? = some v) : w.rangeAt tb o [u, v] := by
  intro j x hj
  subst ho
  rw [cells_of h, show 3 + m * 2 + j = 3 + (2 * m + j) by omega, onceCells_at]
  match j, hj with
  | 0, hj => simp at hj; subst hj; exact hu
  | 1, hj => simp at hj; subst hj; exact hv

set_option maxRecDepth 100000 in
set_option maxHeartbeats 3200000 in
theorem four_no0 (w : World) : Calls Tryz.prog 79 #[.int .i64 0, .slice none 0 0, .slice none 0 0, .int .i64 (-1)] w fun e w' => e = .returned (.tuple #[.slice none 0 0, .int .i64 1101]) ∧ Only [] w w' := by
  have hof := intra_of (.slice none 0 0) (.slice none 0 0) [] [] (-1) 4 8 w (IntSlice.nil w) (IntSlice.nil w) (.inl rfl) (.inl rfl) (by omega) (by omega) (by simp) (by simp) (by omega) (by omega)
  have Hof := Lib.hid hof
  clear hof
  go_enter Tryz.func79, Tryz.ntmps79
  go_wp2_with fail
  refine Hof.out.mono ?_
  rintro r w1 ⟨g, s1, s2, rfl, hg, hs1, hs2, hge, ho⟩
  obtain ⟨a1, p1, rfl, -⟩ := hs1
  obtain ⟨a2, p2, rfl, -⟩ := hs2
  have Hg := Lib.hid hg
  have Ho := Lib.hid ho
  have hgb := lt_of_block hg
  clear hg ho
  go_wp2_with fail
  refine (mo_get w1.heap.size _ (heap_alloc_at w1 _)).mono ?_
  rintro r w2 ⟨rfl, g1, g2⟩
  have O2 : Hid (Only [] w1 w2) := Lib.hid (((Only.refl [] w1).alloc _).trans' g2 (by simp))
  have R2 := Lib.hid (mo_range g1 0 3 rfl (fnV 138) (fnV 140) rfl rfl)
  clear g1 g2
  go_wp2_with (first
    | (with_reducible refine wpList_load_mid rfl _ _ rfl _ _ rfl _ _ R2.out Tryz.underlying207 rfl (by kernel_rfl) ?_)
    | (refine wpList_store_agg rfl _ _ _ rfl w2.heap.size #[fnV 138, fnV 140] rfl rfl (heap_alloc_at w2 _) (by kernel_rfl) rfl (by simp [fnV, Value.oneCell']) ?_))
  intro w3 hw3 ho3
  have A3 := Lib.hid hw3
  have O3 : Hid (Only [] w1 w3) := Lib.hid ((O2.out.alloc _).trans' ho3 (fun i hi => .inr (by have := O2.out.size; simp only [List.mem_singleton] at hi; omega)))
  have f0 : w3.cell? ⟨w2.heap.size, 0, none⟩ = some (.func (.func 138) #[] #[]) := by rw [cells_of hw3]; rfl
  have hz2 := O2.out.size
  clear hw3 ho3 O2 R2
  go_wp2_with fail
  have G3 := Lib.hid (O3.out.heap Hg.out (by simp))
  have O4 := Lib.hid (Ho.out.trans O3.out)
  refine (mo_top G3.out (by decide)).mono ?_
  rintro r w4 ⟨rfl, rfl⟩
  go_wp2
  go_ret2
  exact ⟨rfl, O4.out⟩

set_option maxRecDepth 100000 in
set_option maxHeartbeats 3200000 in
theorem four_no1 (w : World) : Calls Tryz.prog 79 #[.int .i64 1, .slice none 0 0, .slice none 0 0, .int .i64 (-1)] w fun e w' => e = .returned (.tuple #[.slice none 0 0, .int .i64 1101]) ∧ Only [] w w' := by
  have hof := intra_of (.slice none 0 0) (.slice none 0 0) [] [] (-1) 4 8 w (IntSlice.nil w) (IntSlice.nil w) (.inl rfl) (.inl rfl) (by omega) (by omega) (by simp) (by simp) (by omega) (by omega)
  have Hof := Lib.hid hof
  clear hof
  go_enter Tryz.func79, Tryz.ntmps79
  go_wp2_with fail
  refine Hof.out.mono ?_
  rintro r w1 ⟨g, s1, s2, rfl, hg, hs1, hs2, hge, ho⟩
  obtain ⟨a1, p1, rfl, -⟩ := hs1
  obtain ⟨a2, p2, rfl, -⟩ := hs2
  have Hg := Lib.hid hg
  have Ho := Lib.hid ho
  have hgb := lt_of_block hg
  clear hg ho
  go_wp2_with fail
  refine (mo_get w1.heap.size _ (heap_alloc_at w1 _)).mono ?_
  rintro r w2 ⟨rfl, g1, g2⟩
  have O2 : Hid (Only [] w1 w2) := Lib.hid (((Only.refl [] w1).alloc _).trans' g2 (by simp))
  have R2 := Lib.hid (mo_range g1 1 5 rfl (fnV 137) (fnV 141) rfl rfl)
  clear g1 g2
  go_wp2_with (first
    | (with_reducible refine wpList_load_mid rfl _ _ rfl _ _ rfl _ _ R2.out Tryz.underlying207 rfl (by kernel_rfl) ?_)
    | (refine wpList_store_agg rfl _ _ _ rfl w2.heap.size #[fnV 137, fnV 141] rfl rfl (heap_alloc_at w2 _) (by kernel_rfl) rfl (by simp [fnV, Value.oneCell']) ?_))
  intro w3 hw3 ho3
  have A3 := Lib.hid hw3
  have O3 : Hid (Only [] w1 w3) := Lib.hid ((O2.out.alloc _).trans' ho3 (fun i hi => .inr (by have := O2.out.size; simp only [List.mem_singleton] at hi; omega)))
  have f0 : w3.cell? ⟨w2.heap.size, 0, none⟩ = some (.func (.func 137) #[] #[]) := by rw [cells_of hw3]; rfl
  have hz2 := O2.out.size
  clear hw3 ho3 O2 R2
  go_wp2_with fail
  have G3 := Lib.hid (O3.out.heap Hg.out (by simp))
  have O4 := Lib.hid (Ho.out.trans O3.out)
  refine (mo_left G3.out (by decide)).mono ?_
  rintro r w4 ⟨rfl, rfl⟩
  go_wp2
  go_ret2
  exact ⟨rfl, O4.out⟩

set_option maxRecDepth 100000 in
set_option maxHeartbeats 3200000 in
theorem four_no3 (w : World) : Calls Tryz.prog 79 #[.int .i64 3, .slice none 0 0, .slice none 0 0, .int .i64 (-1)] w fun e w' => e = .returned (.tuple #[.slice none 0 0, .int .i64 1101]) ∧ Only [] w w' := by
  have hof := intra_of (.slice none 0 0) (.slice none 0 0) [] [] (-1) 4 8 w (IntSlice.nil w) (IntSlice.nil w) (.inl rfl) (.inl rfl) (by omega) (by omega) (by simp) (by simp) (by omega) (by omega)
  have Hof := Lib.hid hof
  clear hof
  go_enter Tryz.func79, Tryz.ntmps79
  go_wp2_with fail
  refine Hof.out.mono ?_
  rintro r w1 ⟨g, s1, s2, rfl, hg, hs1, hs2, hge, ho⟩
  obtain ⟨a1, p1, rfl, -⟩ := hs1
  obtain ⟨a2, p2, rfl, -⟩ := hs2
  have Hg := Lib.hid hg
  have Ho := Lib.hid ho
  have hgb := lt_of_block hg
  clear hg ho
  go_wp2_with fail
  refine (mo_get w1.heap.size _ (heap_alloc_at w1 _)).mono ?_
  rintro r w2 ⟨rfl, g1, g2⟩
  have O2 : Hid (Only [] w1 w2) := Lib.hid (((Only.refl [] w1).alloc _).trans' g2 (by simp))
  have R2 := Lib.hid (mo_range g1 3 9 rfl (fnV 138) (fnV 143) rfl rfl)
  clear g1 g2
  go_wp2_with (first
    | (with_reducible refine wpList_load_mid rfl _ _ rfl _ _ rfl _ _ R2.out Tryz.underlying207 rfl (by kernel_rfl) ?_)
    | (refine wpList_store_agg rfl _ _ _ rfl w2.heap.size #[fnV 138, fnV 143] rfl rfl (heap_alloc_at w2 _) (by kernel_rfl) rfl (by simp [fnV, Value.oneCell']) ?_))
  intro w3 hw3 ho3
  have A3 := Lib.hid hw3
  have O3 : Hid (Only [] w1 w3) := Lib.hid ((O2.out.alloc _).trans' ho3 (fun i hi => .inr (by have := O2.out.size; simp only [List.mem_singleton] at hi; omega)))
  have f0 : w3.cell? ⟨w2.heap.size, 0, none⟩ = some (.func (.func 138) #[] #[]) := by rw [cells_of hw3]; rfl
  have hz2 := O2.out.size
  clear hw3 ho3 O2 R2
  go_wp2_with fail
  have G3 := Lib.hid (O3.out.heap Hg.out (by simp))
  have O4 := Lib.hid (Ho.out.trans O3.out)
  refine (mo_top G3.out (by decide)).mono ?_
  rintro r w4 ⟨rfl, rfl⟩
  go_wp2
  go_ret2
  exact ⟨rfl, O4.out⟩

set_option maxRecDepth 100000 in
set_option maxHeartbeats 3200000 in
theorem four_no4 (w : World) : Calls Tryz.prog 79 #[.int .i64 4, .slice none 0 0, .slice none 0 0, .int .i64 (-1)] w fun e w' => e = .returned (.tuple #[.slice none 0 0, .int .i64 1101]) ∧ Only [] w w' := by
  have hof := intra_of (.slice none 0 0) (.slice none 0 0) [] [] (-1) 4 8 w (IntSlice.nil w) (IntSlice.nil w) (.inl rfl) (.inl rfl) (by omega) (by omega) (by simp) (by simp) (by omega) (by omega)
  have Hof := Lib.hid hof
  clear hof
  go_enter Tryz.func79, Tryz.ntmps79
  go_wp2_with fail
  refine Hof.out.mono ?_
  rintro r w1 ⟨g, s1, s2, rfl, hg, hs1, hs2, hge, ho⟩
  obtain ⟨a1, p1, rfl, -⟩ := hs1
  obtain ⟨a2, p2, rfl, -⟩ := hs2
  have Hg := Lib.hid hg
  have Ho := Lib.hid ho
  have hgb := lt_of_block hg
  clear hg ho
  go_wp2_with fail
  refine (mo_get w1.heap.size _ (heap_alloc_at w1 _)).mono ?_
  rintro r w2 ⟨rfl, g1, g2⟩
  have O2 : Hid (Only [] w1 w2) := Lib.hid (((Only.refl [] w1).alloc _).trans' g2 (by simp))
  have R2 := Lib.hid (mo_range g1 4 11 rfl (fnV 108) (fnV 144) rfl rfl)
  clear g1 g2
  go_wp2_with (first
    | (with_reducible refine wpList_load_mid rfl _ _ rfl _ _ rfl _ _ R2.out Tryz.underlying207 rfl (by kernel_rfl) ?_)
    | (refine wpList_store_agg rfl _ _ _ rfl w2.heap.size #[fnV 108, fnV 144] rfl rfl (heap_alloc_at w2 _) (by kernel_rfl) rfl (by simp [fnV, Value.oneCell']) ?_))
  intro w3 hw3 ho3
  have A3 := Lib.hid hw3
  have O3 : Hid (Only [] w1 w3) := Lib.hid ((O2.out.alloc _).trans' ho3 (fun i hi => .inr (by have := O2.out.size; simp only [List.mem_singleton] at hi; omega)))
  have f0 : w3.cell? ⟨w2.heap.size, 0, none⟩ = some (.func (.func 108) #[] #[]) := by rw [cells_of hw3]; rfl
  have hz2 := O2.out.size
  clear hw3 ho3 O2 R2
  go_wp2_with fail
  have G3 := Lib.hid (O3.out.heap Hg.out (by simp))
  have O4 := Lib.hid (Ho.out.trans O3.out)
  refine (mo_all_no G3.out).mono ?_
  rintro r w4 ⟨rfl, rfl⟩
  go_wp2
  go_ret2
  exact ⟨rfl, O4.out⟩

set_option maxRecDepth 100000 in
set_option maxHeartbeats 3200000 in
theorem four_no5 (w : World) : Calls Tryz.prog 79 #[.int .i64 5, .slice none 0 0, .slice none 0 0, .int .i64 (-1)] w fun e w' => e = .returned (.tuple #[.slice none 0 0, .int .i64 1101]) ∧ Only [] w w' := by
  have hof := intra_of (.slice none 0 0) (.slice none 0 0) [] [] (-1) 4 8 w (IntSlice.nil w) (IntSlice.nil w) (.inl rfl) (.inl rfl) (by omega) (by omega) (by simp) (by simp) (by omega) (by omega)
  have Hof := Lib.hid hof
  clear hof
  go_enter Tryz.func79, Tryz.ntmps79
  go_wp2_with fail
  refine Hof.out.mono ?_
  rintro r w1 ⟨g, s1, s2, rfl, hg, hs1, hs2, hge, ho⟩
  obtain ⟨a1, p1, rfl, -⟩ := hs1
  obtain ⟨a2, p2, rfl, -⟩ := hs2
  have Hg := Lib.hid hg
  have Ho := Lib.hid ho
  have hgb := lt_of_block hg
  clear hg ho
  go_wp2_with fail
  refine (mo_get w1.heap.size _ (heap_alloc_at w1 _)).mono ?_
  rintro r w2 ⟨rfl, g1, g2⟩
  have O2 : Hid (Only [] w1 w2) := Lib.hid (((Only.refl [] w1).alloc _).trans' g2 (by simp))
  have R2 := Lib.hid (mo_range g1 5 13 rfl (fnV 108) (fnV 147) rfl rfl)
  clear g1 g2
  go_wp2_with (first
    | (with_reducible refine wpList_load_mid rfl _ _ rfl _ _ rfl _ _ R2.out Tryz.underlying207 rfl (by kernel_rfl) ?_)
    | (refine wpList_store_agg rfl _ _ _ rfl w2.heap.size #[fnV 108, fnV 147] rfl rfl (heap_alloc_at w2 _) (by kernel_rfl) rfl (by simp [fnV, Value.oneCell']) ?_))
  intro w3 hw3 ho3
  have A3 := Lib.hid hw3
  have O3 : Hid (Only [] w1 w3) := Lib.hid ((O2.out.alloc _).trans' ho3 (fun i hi => .inr (by have := O2.out.size; simp only [List.mem_singleton] at hi; omega)))
  have f0 : w3.cell? ⟨w2.heap.size, 0, none⟩ = some (.func (.func 108) #[] #[]) := by rw [cells_of hw3]; rfl
  have hz2 := O2.out.size
  clear hw3 ho3 O2 R2
  go_wp2_with fail
  have G3 := Lib.hid (O3.out.heap Hg.out (by simp))
  have O4 := Lib.hid (Ho.out.trans O3.out)
  refine (mo_all_no G3.out).mono ?_
  rintro r w4 ⟨rfl, rfl⟩
  go_wp2
  go_ret2
  exact ⟨rfl, O4.out⟩

set_option maxRecDepth 100000 in
set_option maxHeartbeats 3200000 in
theorem four_no6 (w : World) : Calls Tryz.prog 79 #[.int .i64 6, .slice none 0 0, .slice none 0 0, .int .i64 (-1)] w fun e w' => e = .returned (.tuple #[.slice none 0 0, .int .i64 1101]) ∧ Only [] w w' := by
  have hof := intra_of (.slice none 0 0) (.slice none 0 0) [] [] (-1) 4 8 w (IntSlice.nil w) (IntSlice.nil w) (.inl rfl) (.inl rfl) (by omega) (by omega) (by simp) (by simp) (by omega) (by omega)
  have Hof := Lib.hid hof
  clear hof
  go_enter Tryz.func79, Tryz.ntmps79
  go_wp2_with fail
  refine Hof.out.mono ?_
  rintro r w1 ⟨g, s1, s2, rfl, hg, hs1, hs2, hge, ho⟩
  obtain ⟨a1, p1, rfl, -⟩ := hs1
  obtain ⟨a2, p2, rfl, -⟩ := hs2
  have Hg := Lib.hid hg
  have Ho := Lib.hid ho
  have hgb := lt_of_block hg
  clear hg ho
  go_wp2_with fail
  refine (mo_get w1.heap.size _ (heap_alloc_at w1 _)).mono ?_
  rintro r w2 ⟨rfl, g1, g2⟩
  have O2 : Hid (Only [] w1 w2) := Lib.hid (((Only.refl [] w1).alloc _).trans' g2 (by simp))
  have R2 := Lib.hid (mo_range g1 6 15 rfl (fnV 108) (fnV 148) rfl rfl)
  clear g1 g2
  go_wp2_with (first
    | (with_reducible refine wpList_load_mid rfl _ _ rfl _ _ rfl _ _ R2.out Tryz.underlying207 rfl (by kernel_rfl) ?_)
    | (refine wpList_store_agg rfl _ _ _ rfl w2.heap.size #[fnV 108, fnV 148] rfl rfl (heap_alloc_at w2 _) (by kernel_rfl) rfl (by simp [fnV, Value.oneCell']) ?_))
  intro w3 hw3 ho3
  have A3 := Lib.hid hw3
  have O3 : Hid (Only [] w1 w3) := Lib.hid ((O2.out.alloc _).trans' ho3 (fun i hi => .inr (by have := O2.out.size; simp only [List.mem_singleton] at hi; omega)))
  have f0 : w3.cell? ⟨w2.heap.size, 0, none⟩ = some (.func (.func 108) #[] #[]) := by rw [cells_of hw3]; rfl
  have hz2 := O2.out.size
  clear hw3 ho3 O2 R2
  go_wp2_with fail
  have G3 := Lib.hid (O3.out.heap Hg.out (by simp))
  have O4 := Lib.hid (Ho.out.trans O3.out)
  refine (mo_all_no G3.out).mono ?_
  rintro r w4 ⟨rfl, rfl⟩
  go_wp2
  go_ret2
  exact ⟨rfl, O4.out⟩

set_option maxRecDepth 100000 in
set_option maxHeartbeats 3200000 in
theorem four_no7 (w : World) : Calls Tryz.prog 79 #[.int .i64 7, .slice none 0 0, .slice none 0 0, .int .i64 (-1)] w fun e w' => e = .returned (.tuple #[.slice none 0 0, .int .i64 1101]) ∧ Only [] w w' := by
  have hof := intra_of (.slice none 0 0) (.slice none 0 0) [] [] (-1) 4 8 w (IntSlice.nil w) (IntSlice.nil w) (.inl rfl) (.inl rfl) (by omega) (by omega) (by simp) (by simp) (by omega) (by omega)
  have Hof := Lib.hid hof
  clear hof
  go_enter Tryz.func79, Tryz.ntmps79
  go_wp2_with fail
  refine Hof.out.mono ?_
  rintro r w1 ⟨g, s1, s2, rfl, hg, hs1, hs2, hge, ho⟩
  obtain ⟨a1, p1, rfl, -⟩ := hs1
  obtain ⟨a2, p2, rfl, -⟩ := hs2
  have Hg := Lib.hid hg
  have Ho := Lib.hid ho
  have hgb := lt_of_block hg
  clear hg ho
  go_wp2_with fail
  refine (mo_get w1.heap.size _ (heap_alloc_at w1 _)).mono ?_
  rintro r w2 ⟨rfl, g1, g2⟩
  have O2 : Hid (Only [] w1 w2) := Lib.hid (((Only.refl [] w1).alloc _).trans' g2 (by simp))
  have R2 := Lib.hid (mo_range g1 7 17 rfl (fnV 138) (fnV 149) rfl rfl)
  clear g1 g2
  go_wp2_with (first
    | (with_reducible refine wpList_load_mid rfl _ _ rfl _ _ rfl _ _ R2.out Tryz.underlying207 rfl (by kernel_rfl) ?_)
    | (refine wpList_store_agg rfl _ _ _ rfl w2.heap.size #[fnV 138, fnV 149] rfl rfl (heap_alloc_at w2 _) (by kernel_rfl) rfl (by simp [fnV, Value.oneCell']) ?_))
  intro w3 hw3 ho3
  have A3 := Lib.hid hw3
  have O3 : Hid (Only [] w1 w3) := Lib.hid ((O2.out.alloc _).trans' ho3 (fun i hi => .inr (by have := O2.out.size; simp only [List.mem_singleton] at hi; omega)))
  have f0 : w3.cell? ⟨w2.heap.size, 0, none⟩ = some (.func (.func 138) #[] #[]) := by rw [cells_of hw3]; rfl
  have hz2 := O2.out.size
  clear hw3 ho3 O2 R2
  go_wp2_with fail
  have G3 := Lib.hid (O3.out.heap Hg.out (by simp))
  have O4 := Lib.hid (Ho.out.trans O3.out)
  refine (mo_top G3.out (by decide)).mono ?_
  rintro r w4 ⟨rfl, rfl⟩
  go_wp2
  go_ret2
  exact ⟨rfl, O4.out⟩

set_option maxRecDepth 100000 in
set_option maxHeartbeats 3200000 in
theorem four_no8 (w : World) : Calls Tryz.prog 79 #[.int .i64 8, .slice none 0 0, .slice none 0 0, .int .i64 (-1)] w fun e w' => e = .returned (.tuple #[.slice none 0 0, .int .i64 1101]) ∧ Only [] w w' := by
  have hof := intra_of (.slice none 0 0) (.slice none 0 0) [] [] (-1) 4 8 w (IntSlice.nil w) (IntSlice.nil w) (.inl rfl) (.inl rfl) (by omega) (by omega) (by simp) (by simp) (by omega) (by omega)
  have Hof := Lib.hid hof
  clear hof
  go_enter Tryz.func79, Tryz.ntmps79
  go_wp2_with fail
  refine Hof.out.mono ?_
  rintro r w1 ⟨g, s1, s2, rfl, hg, hs1, hs2, hge, ho⟩
  obtain ⟨a1, p1, rfl, -⟩ := hs1
  obtain ⟨a2, p2, rfl, -⟩ := hs2
  have Hg := Lib.hid hg
  have Ho := Lib.hid ho
  have hgb := lt_of_block hg
  clear hg ho
  go_wp2_with fail
  refine (mo_get w1.heap.size _ (heap_alloc_at w1 _)).mono ?_
  rintro r w2 ⟨rfl, g1, g2⟩
  have O2 : Hid (Only [] w1 w2) := Lib.hid (((Only.refl [] w1).alloc _).trans' g2 (by simp))
  have R2 := Lib.hid (mo_range g1 8 19 rfl (fnV 137) (fnV 150) rfl rfl)
  clear g1 g2
  go_wp2_with (first
    | (with_reducible refine wpList_load_mid rfl _ _ rfl _ _ rfl _ _ R2.out Tryz.underlying207 rfl (by kernel_rfl) ?_)
    | (refine wpList_store_agg rfl _ _ _ rfl w2.heap.size #[fnV 137, fnV 150] rfl rfl (heap_alloc_at w2 _) (by kernel_rfl) rfl (by simp [fnV, Value.oneCell']) ?_))
  intro w3 hw3 ho3
  have A3 := Lib.hid hw3
  have O3 : Hid (Only [] w1 w3) := Lib.hid ((O2.out.alloc _).trans' ho3 (fun i hi => .inr (by have := O2.out.size; simp only [List.mem_singleton] at hi; omega)))
  have f0 : w3.cell? ⟨w2.heap.size, 0, none⟩ = some (.func (.func 137) #[] #[]) := by rw [cells_of hw3]; rfl
  have hz2 := O2.out.size
  clear hw3 ho3 O2 R2
  go_wp2_with fail
  have G3 := Lib.hid (O3.out.heap Hg.out (by simp))
  have O4 := Lib.hid (Ho.out.trans O3.out)
  refine (mo_left G3.out (by decide)).mono ?_
  rintro r w4 ⟨rfl, rfl⟩
  go_wp2
  go_ret2
  exact ⟨rfl, O4.out⟩

set_option maxRecDepth 100000 in
set_option maxHeartbeats 3200000 in
theorem four_dc (vl vt : Value) (xs ys : List Int) (corner : Int) (w : World) (hvl : IntSlice w vl xs) (hvt : IntSlice w vt ys) (hl : xs.length = 0 ∨ xs.length = 4) (ht : ys.length = 0 ∨ ys.length = 8)
    (hx : ∀ i, i < xs.length → 0 ≤ xs.getD i 0 ∧ xs.getD i 0 ≤ 255) (hy : ∀ i, i < ys.length → 0 ≤ ys.getD i 0 ∧ ys.getD i 0 ≤ 255) (c0 : -1 ≤ corner) (c1 : corner ≤ 255) :
    Calls Tryz.prog 79 #[.int .i64 2, vl, vt, .int .i64 corner] w fun e w' => ∃ v, e = .returned (.tuple #[v, .int .i64 0]) ∧ w'.ownsRow w.heap.size 3 1 v 16 ((List.replicate 16 (meanOf xs (ys.take 4))).map (Value.int .i64)) ∧ Only [] w w' := by
  have hof := intra_ofC vl vt xs ys corner 4 8 w hvl hvt hl ht (by omega) (by omega) hx hy c0 c1
  obtain ⟨ao, cap, rfl, -⟩ := hvl
  obtain ⟨ap, cup, rfl, -⟩ := hvt
  have hl100 : xs.length ≤ 100 := by omega
  have Hl100 := Lib.hid hl100
  have Ht := Lib.hid ht
  have Hx := Lib.hid hx
  have Hy := Lib.hid hy
  obtain ⟨m, hm⟩ : ∃ m, m = meanOf xs (ys.take 4) := ⟨_, rfl⟩
  rw [← hm]
  have HM := Lib.hid hm
  clear hl hx hy hl100 ht hm
  have Hof := Lib.hid hof
  clear hof
  go_enter Tryz.func79, Tryz.ntmps79
  go_wp2_with fail
  refine Hof.out.mono ?_
  rintro r w1 ⟨g, s1, s2, rfl, hg, hs1, hs2, hge, ho, hcp⟩
  have hme := fun (wx : World) (hw : Only [] w1 wx) (vx vy : Value) => mo_mean (hw.heap hg (by simp)) (hs1.on hw) (hs2.on hw) hcp Hl100.out Ht.out Hx.out Hy.out vx vy
  rw [← HM.out] at hme
  have Hme := Lib.hid hme
  have Hg := Lib.hid hg
  have Ho := Lib.hid ho
  have hgb := lt_of_block hg
  clear hg ho hme HM hs1 hs2 hcp Hx Hy Hl100 Ht
  go_wp2_with fail
  refine (mo_get w1.heap.size _ (heap_alloc_at w1 _)).mono ?_
  rintro r w2 ⟨rfl, g1, g2⟩
  have O2 : Hid (Only [] w1 w2) := Lib.hid (((Only.refl [] w1).alloc _).trans' g2 (by simp))
  have R2 := Lib.hid (mo_range g1 2 7 rfl (fnV 139) (fnV 142) rfl rfl)
  clear g1 g2
  go_wp2_with (first
    | (with_reducible refine wpList_load_mid rfl _ _ rfl _ _ rfl _ _ R2.out Tryz.underlying207 rfl (by kernel_rfl) ?_)
    | (refine wpList_store_agg rfl _ _ _ rfl w2.heap.size #[fnV 139, fnV 142] rfl rfl (heap_alloc_at w2 _) (by kernel_rfl) rfl (by simp [fnV, Value.oneCell']) ?_))
  intro w3 hw3 ho3
  have A3 := Lib.hid hw3
  have O3 : Hid (Only [] w1 w3) := Lib.hid ((O2.out.alloc _).trans' ho3 (fun i hi => .inr (by have := O2.out.size; simp only [List.mem_singleton] at hi; omega)))
  have f0 : w3.cell? ⟨w2.heap.size, 0, none⟩ = some (.func (.func 139) #[] #[]) := by rw [cells_of hw3]; rfl
  have hz2 := O2.out.size
  clear hw3 ho3 O2 R2
  go_wp2_with fail
  refine (mo_none _ _).mono ?_
  rintro r w4 ⟨rfl, rfl⟩
  have O4 := Lib.hid (Ho.out.trans O3.out)
  have f1 : w3.cell? ⟨w2.heap.size, 1, none⟩ = some (.func (.func 142) #[] #[]) := by rw [cells_of A3.out]; rfl
  obtain ⟨i2, hi2, hz2', hs2, hb2⟩ := info_parts elt64.hi
  go_wp2_with (refine wpList_make_own w3 rfl _ _ _ rfl w3.heap.size 3 i2 _ 1 Tryz.underlying58 hi2 hz2' hs2 _ _ _ 16 rfl rfl rfl (by rw [hb2]; decide) (by decide) (Nat.le_refl _) ?_)
  intro w5 hown5 hgr5
  have Hown5 := Lib.hid hown5
  have O5 : Hid (Only [] w3 w5) := Lib.hid ((Only.refl [] w3).grown hgr5 (fun k h => by cases h))
  have hz3 := O3.out.size
  clear hown5 hgr5 hi2 hz2' hs2 hb2
  go_wp2
  go_loopw [13, 47] (fun v q wr => ∃ k : Nat, k ≤ 16 ∧ q = .int .i64 k ∧ ∃ av cv, v = .slice av k cv ∧ wr.ownsRow w3.heap.size 3 1 (.slice av k cv) k ((List.replicate k m).map (Value.int .i64)) ∧ Only [] w3 wr) (fun _ q _ => 16 - (intOf q).toNat)
  case atStart => exact ⟨0, Nat.zero_le _, rfl, _, _, rfl, Hown5.out, O5.out⟩
  case round =>
    obtain ⟨k, hk, rfl, av, cv, rfl, hown, ho⟩ := hrel
    by_cases hlt : k < 16
    · have f2 := ho.cell f1 (by simp)
      have HO := Lib.hid ho
      have HW := Lib.hid hown
      have qx : (k : Int).tmod 4 = ((k % 4 : Nat) : Int) := by rw [Int.tmod_eq_emod_of_nonneg (by omega)]; omega
      have qy : IntKind.i64.wrap ((k : Int) / 4) = ((k / 4 : Nat) : Int) := by rw [show (k : Int) / 4 = ((k / 4 : Nat) : Int) by omega]; exact i64n _ (by omega)
      clear ho hown
      go_wp2_with fail
      refine (Hme.out _ (O3.out.trans HO.out) _ _).mono ?_
      rintro r w6 ⟨rfl, o6⟩
      have O6 := Lib.hid (HO.out.trans o6)
      have hown6 : w6.ownsRow w3.heap.size 3 1 (.slice av k cv) k ((List.replicate k m).map (Value.int .i64)) := ownsRow_of_block HW.out fun g hg => by
        obtain ⟨c, hc⟩ := ownsRow_block HW.out hg
        exact o6.block g (lt_of_block hc) (by simp)
      have HW6 := Lib.hid hown6
      have hz6 := O6.out.size
      clear o6 hown6
      go_wp2_with (refine wpList_push rfl _ _ rfl elt64 w3.heap.size _ k _ (.int .i64 m) HW6.out rfl rfl rfl rfl hz6 (by decide) (by omega) ?_)
      intro gg cap w7 hp
      have O7 : Hid (Only [] w3 w7) := Lib.hid (O6.out.trans' ((Only.refl (Value.slice av k cv).ownBlock.toList w6).grown hp.2.1 (fun i hi => .inl (by simp [hi]))) (fun i hi => .inr (own_ge HW6.out i (by simpa using hi))))
      have W7 : Hid (w7.ownsRow w3.heap.size 3 1 (.slice (some ⟨gg, 0, none⟩) (k + 1) cap) (k + 1) ((List.replicate (k + 1) m).map (Value.int .i64))) := Lib.hid (by rw [List.map_replicate, List.replicate_succ']; exact hp.1)
      clear hp
      go_wp2
      go_roundw
      case rel => exact ⟨k + 1, by omega, by go_num, _, _, rfl, W7.out, O7.out⟩
      case measure => simp [intOf] <;> omega
    · obtain rfl : k = 16 := by omega
      have H1 := Lib.hid (own_mono hown (show w.heap.size ≤ w3.heap.size by have := Ho.out.size; omega))
      have H2 := Lib.hid (O4.out.trans ho)
      clear hown ho
      go_wp2
      go_ret2
      exact ⟨_, rfl, H1.out, H2.out⟩
end Go.Proofs.YtcmehedjdfopdaaGreat
