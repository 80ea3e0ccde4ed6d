/-
  The walk over package recon's Canvas.Mb: a macroblock of whole modes that is refused.
-/
import Derived.Test.YtcmehedjdfopdaaGreatJ23
namespace Go.Proofs.YtcmehedjdfopdaaGreat
open Go.RowKit

set_option maxRecDepth 100000 in
set_option maxHeartbeats 6400000 in
theorem mb_refused16 {w : World} {B cb yb ub vb cy cu cv wide high n c sb : Nat} {Y U V Y' U' V' : List Int} {ao : Option Addr} {aft : Int} (hc : CanAt w cb yb ub vb cy cu cv wide high Y U V (.slice ao n c) (.pointer (some ⟨sb, 0, none⟩)) aft) (ha : (n : Int) < aft) (hn : n ≤ 3600) (hw0 : 1 ≤ wide) (hwd : wide ≤ 60)
    {D : List Value} (hown : w.ownsRow B 94 23 (.slice ao n c) n D) (Hl Rl : List Value) (hHl : Hl.length = 21) (hRl : Rl.length = 12) {qp mqp : Int} (hs : w.heap[sb]? = some (.cells (Hl ++ Rl ++ ([.int .i64 qp] : List Value)).toArray 89 (0, 0)))
    (Ml : List Value) (hMl : Ml.length = 483) (hM0 : Ml[0]? = some (.int .i64 1)) (hM48 : Ml[48]? = some (.int .i64 0)) (hM49 : Ml[49]? = some (.int .i64 mqp)) (hMc : ∀ i, i < 384 → Ml[50 + i]? = some (.int .i64 0))
    (hT : ∀ wx, Calls Tryz.prog 27 #[.agg Ml.toArray, .agg Hl.toArray] wx fun e w' => e = .returned (.bool true) ∧ Only [] wx w') (hR : ∀ wx, Calls Tryz.prog 28 #[.agg Ml.toArray, .agg Hl.toArray] wx fun e w' => e = .returned (.bool true) ∧ Only [] wx w')
    (hlY' : Y'.length = Y.length) (hlU' : U'.length = U.length) (hlV' : V'.length = V.length) (hD : ∀ (wx : World) (b mb db : Nat), BrushAt wx b cb mb db (n % wide) (n / wide) → wx.heap[mb]? = some (.cells Ml.toArray 48 (0, 0)) → wx.heap[db]? = some (.cells (elemD sb 1 mqp nil4).toArray 94 (0, 0)) → w.heap.size ≤ b → w.heap.size ≤ mb → w.heap.size ≤ db → Only [] w wx → Calls Tryz.prog 29 #[.pointer (some ⟨b, 0, none⟩)] wx fun e w' => e = .returned (.bool false) ∧ SmpAt w' yb Y' ∧ SmpAt w' ub U' ∧ SmpAt w' vb V' ∧ Only [yb, ub, vb] wx w') :
    Calls Tryz.prog 13 #[.pointer (some ⟨cb, 0, none⟩), .agg Ml.toArray] w fun e w' => e = .returned (.int .i64 2200) ∧ CanAt w' cb yb ub vb cy cu cv wide high Y' U' V' (.slice ao n c) (.pointer (some ⟨sb, 0, none⟩)) aft ∧ Only [yb, ub, vb] w w' := by
  have s7 : w.cell? ⟨cb, 7, none⟩ = some (.slice ao n c) := by rw [cells_of hc.st]; rfl
  have s9 : w.cell? ⟨cb, 9, none⟩ = some (.int .i64 aft) := by rw [cells_of hc.st]; rfl
  have s8 : w.cell? ⟨cb, 8, none⟩ = some (.pointer (some ⟨sb, 0, none⟩)) := by rw [cells_of hc.st]; rfl
  have hge : decide ((n : Int) ≥ aft) = false := by simp; omega
  have hcb := lt_of_block hc.st
  have hsb := lt_of_block hs
  have hwz : (wide : Int) ≠ 0 := by omega
  have hwb : ((wide : Int) == 0) = false := by simp only [beq_eq_false_iff_ne]; exact hwz
  obtain ⟨x, hx⟩ : ∃ x : Nat, x = n % wide := ⟨_, rfl⟩
  obtain ⟨y, hy⟩ : ∃ y : Nat, y = n / wide := ⟨_, rfl⟩
  have HX := Lib.hid hx
  have HY := Lib.hid hy
  clear hx hy
  have hrs : w.rangeAt sb 0 Hl := fun j v hj => by
    rw [cells_of hs, Nat.zero_add, List.getElem?_toArray, List.append_assoc, List.getElem?_append_left (List.getElem?_eq_some_iff.1 hj).1]
    exact hj
  have A0 := Lib.hid (heap_alloc_at w (.cells Ml.toArray 48))
  have OA : Hid (Only [] w (w.alloc (.cells Ml.toArray 48))) := Lib.hid ((Only.refl [] w).alloc _)
  have hrm : (w.alloc (.cells Ml.toArray 48)).rangeAt w.heap.size 0 Ml := fun j v hj => by
    rw [cells_of A0.out, Nat.zero_add, List.getElem?_toArray]
    exact hj
  have hi48 : (Tryz.prog.info? 48).map (·.size) = some Ml.length := by rw [hMl]; kernel_rfl
  have hi27 : (Tryz.prog.info? 27).map (·.size) = some Hl.length := by rw [hHl]; kernel_rfl
  have hu48 := Tryz.underlying48
  have hu27 := Tryz.underlying27
  have hSl : (Hl ++ Rl ++ ([.int .i64 qp] : List Value))[33]? = some (.int .i64 qp) := by
    rw [List.getElem?_append_right (by simp; omega)]
    simp [hHl, hRl]
  have HSl := Lib.hid hSl
  have hcy : cb ≠ yb := block_ne hc.st hc.ys.choose_spec (by decide)
  have hcu : cb ≠ ub := block_ne hc.st hc.us.choose_spec (by decide)
  have hcv : cb ≠ vb := block_ne hc.st hc.vs.choose_spec (by decide)
  have hsy : sb ≠ yb := block_ne hs hc.ys.choose_spec (by decide)
  have hsu : sb ≠ ub := block_ne hs hc.us.choose_spec (by decide)
  have hsv : sb ≠ vb := block_ne hs hc.vs.choose_spec (by decide)
  have hcs : cb ≠ sb := block_ne hc.st hs (by decide)
  have hlY := lt_of_block hc.ys.choose_spec
  have hlU := lt_of_block hc.us.choose_spec
  have hlV := lt_of_block hc.vs.choose_spec
  have HDr := Lib.hid hD
  have H21 := Lib.hid hHl
  have H12 := Lib.hid hRl
  have HlY := Lib.hid hlY'
  have HlU := Lib.hid hlU'
  have HlV := Lib.hid hlV'
  have HC := Lib.hid hc
  have HS := Lib.hid hs
  have HT := Lib.hid hT
  have HR := Lib.hid hR
  have HM0 := Lib.hid hM0
  have HM48 := Lib.hid hM48
  have HM49 := Lib.hid hM49
  have HMc := Lib.hid hMc
  have HO := Lib.hid hown
  clear hc hs hD hlY' hlU' hlV' hT hR hM0 hM48 hM49 hMc hown hHl hRl hMl hSl
  go_enter Tryz.func13, Tryz.ntmps13
  go_wp2_with fail
  go_quiet (fail)
  rename_i nq
  have A1 : Hid (((w.alloc (.cells Ml.toArray 48)).drewN nq).heap[w.heap.size]? = some (.cells Ml.toArray 48 (0, 0))) := Lib.hid A0.out
  have r1 : ((w.alloc (.cells Ml.toArray 48)).drewN nq).rangeAt w.heap.size 0 Ml := hrm
  have r2 : ((w.alloc (.cells Ml.toArray 48)).drewN nq).rangeAt sb 0 Hl := range_alloc hrs
  have c8 : ((w.alloc (.cells Ml.toArray 48)).drewN nq).cell? ⟨cb, 8, none⟩ = some (.pointer (some ⟨sb, 0, none⟩)) := cell_alloc s8
  have O1 := Lib.hid (OA.out.drewN nq)
  clear A0 OA hrm hrs s7 s9 s8
  generalize (w.alloc (.cells Ml.toArray 48)).drewN nq = w1 at *
  go_wp2_with fail
  refine wp_region_L (by kernel_rfl) (fun w' : World => w'.rangeAt w.heap.size 0 Ml ∧ w'.cell? ⟨cb, 8, none⟩ = some (.pointer (some ⟨sb, 0, none⟩)) ∧ w'.rangeAt sb 0 Hl) 10 ?_
  have hS0 : (fun w' : World => w'.rangeAt w.heap.size 0 Ml ∧ w'.cell? ⟨cb, 8, none⟩ = some (.pointer (some ⟨sb, 0, none⟩)) ∧ w'.rangeAt sb 0 Hl) w1.drew := ⟨r1, c8, r2⟩
  refine AnyL.take 0 rfl (by kernel_rfl) (by kernel_rfl) (by kernel_rfl) (by kernel_rfl) (fun _ _ _ h => h) (by assumption) (yieldsIf_load_mid (by rfl) _ _ rfl w.heap.size 0 rfl Ml _ (fun w' h => h.1) hu48 rfl hi48) ?_
  try simp only [Act.put, List.setIfInBounds_toArray, List.set_cons_zero, List.set_cons_succ]
  refine AnyL.take 1 (v := ?_) rfl (by kernel_rfl) (by kernel_rfl) (by kernel_rfl) (by kernel_rfl) (fun _ _ _ h => h) (by assumption) (Or.inl ⟨by rfl, ?_⟩) ?_
  rotate_left
  · (intro w' hSw; (try dsimp only at hSw); go_simp; try (with_reducible rfl))
  try simp only [Act.put, List.setIfInBounds_toArray, List.set_cons_zero, List.set_cons_succ]
  refine AnyL.take 2 (v := ?_) rfl (by kernel_rfl) (by kernel_rfl) (by kernel_rfl) (by kernel_rfl) (fun _ _ _ h => h) (by assumption) (Or.inl ⟨by rfl, ?_⟩) ?_
  rotate_left
  · (intro w' hSw; (try dsimp only at hSw); go_simp; try (with_reducible rfl))
  try simp only [Act.put, List.setIfInBounds_toArray, List.set_cons_zero, List.set_cons_succ]
  refine AnyL.take 3 (v := ?_) rfl (by kernel_rfl) (by kernel_rfl) (by kernel_rfl) (by kernel_rfl) (fun _ _ _ h => h) (by assumption) (Or.inl ⟨by rfl, ?_⟩) ?_
  rotate_left
  · (intro w' hSw; (try dsimp only at hSw); go_simp; try (with_reducible rfl))
  try simp only [Act.put, List.setIfInBounds_toArray, List.set_cons_zero, List.set_cons_succ]
  refine AnyL.take 4 (v := ?_) rfl (by kernel_rfl) (by kernel_rfl) (by kernel_rfl) (by kernel_rfl) (fun _ _ _ h => h) (by assumption) (Or.inl ⟨by rfl, ?_⟩) ?_
  rotate_left
  · (intro w' hSw; (try dsimp only at hSw); go_simp; try (with_reducible rfl))
  try simp only [Act.put, List.setIfInBounds_toArray, List.set_cons_zero, List.set_cons_succ]
  refine AnyL.take 5 (v := ?_) rfl (by kernel_rfl) (by kernel_rfl) (by kernel_rfl) (by kernel_rfl) (fun _ _ _ h => h) (by assumption) (Or.inl ⟨by rfl, ?_⟩) ?_
  rotate_left
  · (intro w' hSw; (try dsimp only at hSw); go_simp; try (with_reducible rfl))
  try simp only [Act.put, List.setIfInBounds_toArray, List.set_cons_zero, List.set_cons_succ]
  refine AnyL.take 6 (v := ?_) rfl (by kernel_rfl) (by kernel_rfl) (by kernel_rfl) (by kernel_rfl) (fun _ _ _ h => h) (by assumption) (Or.inl ⟨by rfl, ?_⟩) ?_
  rotate_left
  · (intro w' hSw; (try dsimp only at hSw); go_simp; try (with_reducible rfl))
  try simp only [Act.put, List.setIfInBounds_toArray, List.set_cons_zero, List.set_cons_succ]
  refine AnyL.take 7 rfl (by kernel_rfl) (by kernel_rfl) (by kernel_rfl) (by kernel_rfl) (fun _ _ _ h => h) (by assumption) (yieldsIf_load_mid (by rfl) _ _ rfl sb 0 rfl Hl _ (fun w' h => h.2.2) hu27 rfl hi27) ?_
  try simp only [Act.put, List.setIfInBounds_toArray, List.set_cons_zero, List.set_cons_succ]
  refine AnyL.one 8 (by kernel_rfl) rfl (fun K hK => ?_)
  go_simp
  refine (HT.out _).mono ?_
  rintro rr w2 ⟨rfl, gn⟩
  have g1 : Only [] w1 w2 := (Only.refl [] w1).drew.trans gn
  have OT := Lib.hid (O1.out.trans g1)
  have x1 := range_only r1 g1 (by simp)
  have x2 := g1.cell c8 (by simp)
  have x3 := range_only r2 g1 (by simp)
  have A2 := Lib.hid (g1.heap A1.out (by simp))
  clear r1 c8 r2 gn g1 hS0 O1 A1
  have r1 := x1
  have c8 := x2
  have r2 := x3
  have O1 := OT
  have A1 := A2
  clear x1 x2 x3 OT A2
  refine hK _ _ (fun _ => ⟨r1, c8, r2⟩) (fun hKq => ?_)
  clear hK K hKq
  try simp only [Act.put, List.setIfInBounds_toArray, List.set_cons_zero, List.set_cons_succ]
  have hS0 : (fun w' : World => w'.rangeAt w.heap.size 0 Ml ∧ w'.cell? ⟨cb, 8, none⟩ = some (.pointer (some ⟨sb, 0, none⟩)) ∧ w'.rangeAt sb 0 Hl) w2 := ⟨r1, c8, r2⟩
  refine AnyL.take 9 (v := ?_) rfl (by kernel_rfl) (by kernel_rfl) (by kernel_rfl) (by kernel_rfl) (fun _ _ _ h => h) (by assumption) (Or.inl ⟨by rfl, ?_⟩) ?_
  rotate_left
  · (intro w' hSw; (try dsimp only at hSw); go_simp; try (with_reducible rfl))
  try simp only [Act.put, List.setIfInBounds_toArray, List.set_cons_zero, List.set_cons_succ]
  refine AnyL.one 10 (by kernel_rfl) rfl (fun K hK => ?_)
  go_simp
  refine hK _ _ (fun h => absurd rfl h) (fun hKq => ?_)
  clear hK K hKq
  try simp only [Act.put, List.setIfInBounds_toArray, List.set_cons_zero, List.set_cons_succ]
  refine AnyL.done (by kernel_rfl) ?_ _
  clear hS0
  go_wp2_with fail
  refine wp_region_L (by kernel_rfl) (fun w' : World => w'.rangeAt w.heap.size 0 Ml ∧ w'.cell? ⟨cb, 8, none⟩ = some (.pointer (some ⟨sb, 0, none⟩)) ∧ w'.rangeAt sb 0 Hl) 10 ?_
  have hS0 : (fun w' : World => w'.rangeAt w.heap.size 0 Ml ∧ w'.cell? ⟨cb, 8, none⟩ = some (.pointer (some ⟨sb, 0, none⟩)) ∧ w'.rangeAt sb 0 Hl) w2.drew := ⟨r1, c8, r2⟩
  refine AnyL.take 0 rfl (by kernel_rfl) (by kernel_rfl) (by kernel_rfl) (by kernel_rfl) (fun _ _ _ h => h) (by assumption) (yieldsIf_load_mid (by rfl) _ _ rfl w.heap.size 0 rfl Ml _ (fun w' h => h.1) hu48 rfl hi48) ?_
  try simp only [Act.put, List.setIfInBounds_toArray, List.set_cons_zero, List.set_cons_succ]
  refine AnyL.take 1 (v := ?_) rfl (by kernel_rfl) (by kernel_rfl) (by kernel_rfl) (by kernel_rfl) (fun _ _ _ h => h) (by assumption) (Or.inl ⟨by rfl, ?_⟩) ?_
  rotate_left
  · (intro w' hSw; (try dsimp only at hSw); go_simp; try (with_reducible rfl))
  try simp only [Act.put, List.setIfInBounds_toArray, List.set_cons_zero, List.set_cons_succ]
  refine AnyL.take 2 (v := ?_) rfl (by kernel_rfl) (by kernel_rfl) (by kernel_rfl) (by kernel_rfl) (fun _ _ _ h => h) (by assumption) (Or.inl ⟨by rfl, ?_⟩) ?_
  rotate_left
  · (intro w' hSw; (try dsimp only at hSw); go_simp; try (with_reducible rfl))
  try simp only [Act.put, List.setIfInBounds_toArray, List.set_cons_zero, List.set_cons_succ]
  refine AnyL.take 3 (v := ?_) rfl (by kernel_rfl) (by kernel_rfl) (by kernel_rfl) (by kernel_rfl) (fun _ _ _ h => h) (by assumption) (Or.inl ⟨by rfl, ?_⟩) ?_
  rotate_left
  · (intro w' hSw; (try dsimp only at hSw); go_simp; try (with_reducible rfl))
  try simp only [Act.put, List.setIfInBounds_toArray, List.set_cons_zero, List.set_cons_succ]
  refine AnyL.take 4 (v := ?_) rfl (by kernel_rfl) (by kernel_rfl) (by kernel_rfl) (by kernel_rfl) (fun _ _ _ h => h) (by assumption) (Or.inl ⟨by rfl, ?_⟩) ?_
  rotate_left
  · (intro w' hSw; (try dsimp only at hSw); go_simp; try (with_reducible rfl))
  try simp only [Act.put, List.setIfInBounds_toArray, List.set_cons_zero, List.set_cons_succ]
  refine AnyL.take 5 (v := ?_) rfl (by kernel_rfl) (by kernel_rfl) (by kernel_rfl) (by kernel_rfl) (fun _ _ _ h => h) (by assumption) (Or.inl ⟨by rfl, ?_⟩) ?_
  rotate_left
  · (intro w' hSw; (try dsimp only at hSw); go_simp; try (with_reducible rfl))
  try simp only [Act.put, List.setIfInBounds_toArray, List.set_cons_zero, List.set_cons_succ]
  refine AnyL.take 6 (v := ?_) rfl (by kernel_rfl) (by kernel_rfl) (by kernel_rfl) (by kernel_rfl) (fun _ _ _ h => h) (by assumption) (Or.inl ⟨by rfl, ?_⟩) ?_
  rotate_left
  · (intro w' hSw; (try dsimp only at hSw); go_simp; try (with_reducible rfl))
  try simp only [Act.put, List.setIfInBounds_toArray, List.set_cons_zero, List.set_cons_succ]
  refine AnyL.take 7 rfl (by kernel_rfl) (by kernel_rfl) (by kernel_rfl) (by kernel_rfl) (fun _ _ _ h => h) (by assumption) (yieldsIf_load_mid (by rfl) _ _ rfl sb 0 rfl Hl _ (fun w' h => h.2.2) hu27 rfl hi27) ?_
  try simp only [Act.put, List.setIfInBounds_toArray, List.set_cons_zero, List.set_cons_succ]
  refine AnyL.one 8 (by kernel_rfl) rfl (fun K hK => ?_)
  go_simp
  refine (HR.out _).mono ?_
  rintro rr w3 ⟨rfl, gn⟩
  have g1 : Only [] w2 w3 := (Only.refl [] w2).drew.trans gn
  have OR := Lib.hid (O1.out.trans g1)
  have x1 := range_only r1 g1 (by simp)
  have x2 := g1.cell c8 (by simp)
  have x3 := range_only r2 g1 (by simp)
  have A2 := Lib.hid (g1.heap A1.out (by simp))
  clear r1 c8 r2 gn g1 hS0 O1 A1
  have r1 := x1
  have c8 := x2
  have r2 := x3
  have O1 := OR
  have A1 := A2
  clear x1 x2 x3 OR A2
  refine hK _ _ (fun _ => ⟨r1, c8, r2⟩) (fun hKq => ?_)
  clear hK K hKq
  try simp only [Act.put, List.setIfInBounds_toArray, List.set_cons_zero, List.set_cons_succ]
  have hS0 : (fun w' : World => w'.rangeAt w.heap.size 0 Ml ∧ w'.cell? ⟨cb, 8, none⟩ = some (.pointer (some ⟨sb, 0, none⟩)) ∧ w'.rangeAt sb 0 Hl) w3 := ⟨r1, c8, r2⟩
  refine AnyL.take 9 (v := ?_) rfl (by kernel_rfl) (by kernel_rfl) (by kernel_rfl) (by kernel_rfl) (fun _ _ _ h => h) (by assumption) (Or.inl ⟨by rfl, ?_⟩) ?_
  rotate_left
  · (intro w' hSw; (try dsimp only at hSw); go_simp; try (with_reducible rfl))
  try simp only [Act.put, List.setIfInBounds_toArray, List.set_cons_zero, List.set_cons_succ]
  refine AnyL.one 10 (by kernel_rfl) rfl (fun K hK => ?_)
  go_simp
  refine hK _ _ (fun h => absurd rfl h) (fun hKq => ?_)
  clear hK K hKq
  try simp only [Act.put, List.setIfInBounds_toArray, List.set_cons_zero, List.set_cons_succ]
  refine AnyL.done (by kernel_rfl) ?_ _
  clear hS0
  have k0 : w3.cell? ⟨w.heap.size, 0, none⟩ = some (.int .i64 1) := by rw [cells_of A1.out, List.getElem?_toArray]; exact HM0.out
  have S3 := Lib.hid (O1.out.heap HS.out (by simp))
  have k33 : w3.cell? ⟨sb, 33, none⟩ = some (.int .i64 qp) := by rw [cells_of S3.out, List.getElem?_toArray, HSl.out]
  have k49 : w3.cell? ⟨w.heap.size, 49, none⟩ = some (.int .i64 mqp) := by rw [cells_of A1.out, List.getElem?_toArray]; exact HM49.out
  clear r1 r2
  go_wp2_with fail
  refine wp_region_L (by kernel_rfl) (fun w' : World => w'.cell? ⟨cb, 8, none⟩ = some (.pointer (some ⟨sb, 0, none⟩)) ∧ w'.cell? ⟨w.heap.size, 0, none⟩ = some (.int .i64 1) ∧ w'.cell? ⟨sb, 33, none⟩ = some (.int .i64 qp)) 15 ?_
  have hS0 : (fun w' : World => w'.cell? ⟨cb, 8, none⟩ = some (.pointer (some ⟨sb, 0, none⟩)) ∧ w'.cell? ⟨w.heap.size, 0, none⟩ = some (.int .i64 1) ∧ w'.cell? ⟨sb, 33, none⟩ = some (.int .i64 qp)) w3.drew := ⟨c8, k0, k33⟩
  refine AnyL.take 0 (v := ?_) rfl (by kernel_rfl) (by kernel_rfl) (by kernel_rfl) (by kernel_rfl) (fun _ _ _ h => h) (by assumption) (Or.inl ⟨by rfl, ?_⟩) ?_
  rotate_left
  · (intro w' hSw; (try dsimp only at hSw); go_simp; try (with_reducible rfl))
  try simp only [Act.put, List.setIfInBounds_toArray, List.set_cons_zero, List.set_cons_succ]
  refine AnyL.take 1 (v := ?_) rfl (by kernel_rfl) (by kernel_rfl) (by kernel_rfl) (by kernel_rfl) (fun _ _ _ h => h) (by assumption) (Or.inl ⟨by rfl, ?_⟩) ?_
  rotate_left
  · (intro w' hSw; (try dsimp only at hSw); go_simp; try (with_reducible rfl))
  try simp only [Act.put, List.setIfInBounds_toArray, List.set_cons_zero, List.set_cons_succ]
  refine AnyL.take 2 (v := ?_) rfl (by kernel_rfl) (by kernel_rfl) (by kernel_rfl) (by kernel_rfl) (fun _ _ _ h => h) (by assumption) (Or.inl ⟨by rfl, ?_⟩) ?_
  rotate_left
  · (intro w' hSw; (try dsimp only at hSw); go_simp; try (with_reducible rfl))
  try simp only [Act.put, List.setIfInBounds_toArray, List.set_cons_zero, List.set_cons_succ]
  refine AnyL.take 3 (v := ?_) rfl (by kernel_rfl) (by kernel_rfl) (by kernel_rfl) (by kernel_rfl) (fun _ _ _ h => h) (by assumption) (Or.inl ⟨by rfl, ?_⟩) ?_
  rotate_left
  · (intro w' hSw; (try dsimp only at hSw); go_simp; try (with_reducible rfl))
  try simp only [Act.put, List.setIfInBounds_toArray, List.set_cons_zero, List.set_cons_succ]
  refine AnyL.take 4 (v := ?_) rfl (by kernel_rfl) (by kernel_rfl) (by kernel_rfl) (by kernel_rfl) (fun _ _ _ h => h) (by assumption) (Or.inl ⟨by rfl, ?_⟩) ?_
  rotate_left
  · (intro w' hSw; (try dsimp only at hSw); go_simp; try (with_reducible rfl))
  try simp only [Act.put, List.setIfInBounds_toArray, List.set_cons_zero, List.set_cons_succ]
  refine AnyL.take 5 (v := ?_) rfl (by kernel_rfl) (by kernel_rfl) (by kernel_rfl) (by kernel_rfl) (fun _ _ _ h => h) (by assumption) (Or.inl ⟨by rfl, ?_⟩) ?_
  rotate_left
  · (intro w' hSw; (try dsimp only at hSw); go_simp; try (with_reducible rfl))
  try simp only [Act.put, List.setIfInBounds_toArray, List.set_cons_zero, List.set_cons_succ]
  refine AnyL.take 6 (v := ?_) rfl (by kernel_rfl) (by kernel_rfl) (by kernel_rfl) (by kernel_rfl) (fun _ _ _ h => h) (by assumption) (Or.inl ⟨by rfl, ?_⟩) ?_
  rotate_left
  · (intro w' hSw; (try dsimp only at hSw); go_simp; try (with_reducible rfl))
  try simp only [Act.put, List.setIfInBounds_toArray, List.set_cons_zero, List.set_cons_succ]
  refine AnyL.take 7 (v := ?_) rfl (by kernel_rfl) (by kernel_rfl) (by kernel_rfl) (by kernel_rfl) (fun _ _ _ h => h) (by assumption) (Or.inl ⟨by rfl, ?_⟩) ?_
  rotate_left
  · (intro w' hSw; (try dsimp only at hSw); go_simp; try (with_reducible rfl))
  try simp only [Act.put, List.setIfInBounds_toArray, List.set_cons_zero, List.set_cons_succ]
  refine AnyL.take 8 (v := ?_) rfl (by kernel_rfl) (by kernel_rfl) (by kernel_rfl) (by kernel_rfl) (fun _ _ _ h => h) (by assumption) (Or.inl ⟨by rfl, ?_⟩) ?_
  rotate_left
  · (intro w' hSw; (try dsimp only at hSw); go_simp; try (with_reducible rfl))
  try simp only [Act.put, List.setIfInBounds_toArray, List.set_cons_zero, List.set_cons_succ]
  refine AnyL.take 9 (v := ?_) rfl (by kernel_rfl) (by kernel_rfl) (by kernel_rfl) (by kernel_rfl) (fun _ _ _ h => h) (by assumption) (Or.inl ⟨by rfl, ?_⟩) ?_
  rotate_left
  · (intro w' hSw; (try dsimp only at hSw); go_simp; try (with_reducible rfl))
  try simp only [Act.put, List.setIfInBounds_toArray, List.set_cons_zero, List.set_cons_succ]
  refine AnyL.take 10 (v := ?_) rfl (by kernel_rfl) (by kernel_rfl) (by kernel_rfl) (by kernel_rfl) (fun _ _ _ h => h) (by assumption) (Or.inl ⟨by rfl, ?_⟩) ?_
  rotate_left
  · (intro w' hSw; (try dsimp only at hSw); go_simp; try (with_reducible rfl))
  try simp only [Act.put, List.setIfInBounds_toArray, List.set_cons_zero, List.set_cons_succ]
  refine AnyL.take 11 (v := ?_) rfl (by kernel_rfl) (by kernel_rfl) (by kernel_rfl) (by kernel_rfl) (fun _ _ _ h => h) (by assumption) (Or.inl ⟨by rfl, ?_⟩) ?_
  rotate_left
  · (intro w' hSw; (try dsimp only at hSw); go_simp; try (with_reducible rfl))
  try simp only [Act.put, List.setIfInBounds_toArray, List.set_cons_zero, List.set_cons_succ]
  refine AnyL.take 12 (v := ?_) rfl (by kernel_rfl) (by kernel_rfl) (by kernel_rfl) (by kernel_rfl) (fun _ _ _ h => h) (by assumption) (Or.inl ⟨by rfl, ?_⟩) ?_
  rotate_left
  · (intro w' hSw; (try dsimp only at hSw); go_simp; try (with_reducible rfl))
  try simp only [Act.put, List.setIfInBounds_toArray, List.set_cons_zero, List.set_cons_succ]
  refine AnyL.take 13 (v := ?_) rfl (by kernel_rfl) (by kernel_rfl) (by kernel_rfl) (by kernel_rfl) (fun _ _ _ h => h) (by assumption) (Or.inl ⟨by rfl, ?_⟩) ?_
  rotate_left
  · (intro w' hSw; (try dsimp only at hSw); go_simp; try (with_reducible rfl))
  try simp only [Act.put, List.setIfInBounds_toArray, List.set_cons_zero, List.set_cons_succ]
  refine AnyL.one 14 (by kernel_rfl) rfl (fun K hK => ?_)
  go_simp
  refine hK _ _ (fun _ => ⟨cell_alloc c8, cell_alloc k0, cell_alloc k33⟩) (fun hKq => ?_)
  clear hK K hKq
  try simp only [Act.put, List.setIfInBounds_toArray, List.set_cons_zero, List.set_cons_succ]
  refine AnyL.one 15 (by kernel_rfl) rfl (fun K hK => ?_)
  rw [if_pos (by rfl)]
  refine wp_store_mid _ _ _ rfl w3.heap.size 0 #[.pointer (some ⟨sb, 0, none⟩), .int .i64 1, .int .i64 qp, .bool false, .bool false, .bool false, .bool false, .bool false, .bool false, .bool false, .bool false, .bool false, .bool false, .bool false, .bool false, .bool false, .bool false, .bool false, .bool false, .slice none 0 0, .slice none 0 0, .slice none 0 0, .slice none 0 0] rfl rfl (there_of (heap_alloc_drew w3 _) (Nat.le_refl 23)) (by kernel_rfl) (by simp [Value.oneCell']) ?_
  refine hK _ _ (fun h => absurd rfl h) (fun hKq => ?_)
  clear hK K hKq
  try dsimp only [Act.put]
  refine AnyL.done (by kernel_rfl) ?_ _
  clear hS0
  have D4 : Hid ((((w3.alloc (.cells #[.pointer none, .int .i64 0, .int .i64 0, .bool false, .bool false, .bool false, .bool false, .bool false, .bool false, .bool false, .bool false, .bool false, .bool false, .bool false, .bool false, .bool false, .bool false, .bool false, .bool false, .slice none 0 0, .slice none 0 0, .slice none 0 0, .slice none 0 0] 94)).drew).setCells w3.heap.size 0 [.pointer (some ⟨sb, 0, none⟩), .int .i64 1, .int .i64 qp, .bool false, .bool false, .bool false, .bool false, .bool false, .bool false, .bool false, .bool false, .bool false, .bool false, .bool false, .bool false, .bool false, .bool false, .bool false, .bool false, .slice none 0 0, .slice none 0 0, .slice none 0 0, .slice none 0 0]).heap[w3.heap.size]? = some (.cells #[.pointer (some ⟨sb, 0, none⟩), .int .i64 1, .int .i64 qp, .bool false, .bool false, .bool false, .bool false, .bool false, .bool false, .bool false, .bool false, .bool false, .bool false, .bool false, .bool false, .bool false, .bool false, .bool false, .bool false, .slice none 0 0, .slice none 0 0, .slice none 0 0, .slice none 0 0] 94 (0, 0))) := Lib.hid (row_over (Z := #[.pointer (some ⟨sb, 0, none⟩), .int .i64 1, .int .i64 qp, .bool false, .bool false, .bool false, .bool false, .bool false, .bool false, .bool false, .bool false, .bool false, .bool false, .bool false, .bool false, .bool false, .bool false, .bool false, .bool false, .slice none 0 0, .slice none 0 0, .slice none 0 0, .slice none 0 0]) (heap_alloc_drew w3 _) rfl)
  have P4 : Hid (Only [] w3 (((w3.alloc (.cells #[.pointer none, .int .i64 0, .int .i64 0, .bool false, .bool false, .bool false, .bool false, .bool false, .bool false, .bool false, .bool false, .bool false, .bool false, .bool false, .bool false, .bool false, .bool false, .bool false, .bool false, .slice none 0 0, .slice none 0 0, .slice none 0 0, .slice none 0 0] 94)).drew).setCells w3.heap.size 0 [.pointer (some ⟨sb, 0, none⟩), .int .i64 1, .int .i64 qp, .bool false, .bool false, .bool false, .bool false, .bool false, .bool false, .bool false, .bool false, .bool false, .bool false, .bool false, .bool false, .bool false, .bool false, .bool false, .bool false, .slice none 0 0, .slice none 0 0, .slice none 0 0, .slice none 0 0])) := Lib.hid ((((Only.refl [] w3).alloc _).drew).trans' (only_setCells w3.heap.size _ 0 _) (fun i hi => .inr (by simp only [List.mem_singleton] at hi; omega)))
  generalize ((w3.alloc (.cells #[.pointer none, .int .i64 0, .int .i64 0, .bool false, .bool false, .bool false, .bool false, .bool false, .bool false, .bool false, .bool false, .bool false, .bool false, .bool false, .bool false, .bool false, .bool false, .bool false, .bool false, .slice none 0 0, .slice none 0 0, .slice none 0 0, .slice none 0 0] 94)).drew).setCells w3.heap.size 0 [.pointer (some ⟨sb, 0, none⟩), .int .i64 1, .int .i64 qp, .bool false, .bool false, .bool false, .bool false, .bool false, .bool false, .bool false, .bool false, .bool false, .bool false, .bool false, .bool false, .bool false, .bool false, .bool false, .bool false, .slice none 0 0, .slice none 0 0, .slice none 0 0, .slice none 0 0] = w4 at *
  have hn3 := lt_of_block A1.out
  have e0 := P4.out.cell k0 (by simp)
  have e49 := P4.out.cell k49 (by simp)
  have d2 : w4.cell? ⟨w3.heap.size, 2, none⟩ = some (.int .i64 qp) := by rw [cells_of D4.out]; rfl
  have z2 := free_of D4.out 2
  have D5 : Hid ((w4.setCell ⟨w3.heap.size, 2, none⟩ (.int .i64 mqp)).heap[w3.heap.size]? = some (.cells #[.pointer (some ⟨sb, 0, none⟩), .int .i64 1, .int .i64 mqp, .bool false, .bool false, .bool false, .bool false, .bool false, .bool false, .bool false, .bool false, .bool false, .bool false, .bool false, .bool false, .bool false, .bool false, .bool false, .bool false, .slice none 0 0, .slice none 0 0, .slice none 0 0, .slice none 0 0] 94 (0, 0))) := Lib.hid (heap_set_same (i := 2) (.int .i64 mqp) D4.out)
  have P5 : Hid (Only [] w3 (w4.setCell ⟨w3.heap.size, 2, none⟩ (.int .i64 mqp))) := Lib.hid (P4.out.setCell (.inr (Nat.le_refl _)) _)
  have O3 := Lib.hid O1.out.size
  clear k0 k33 k49 c8 P4 hu48 hi48 hu27 hi27
  go_wp2_with fail
  clear e0 e49 d2 z2 D4
  generalize w4.setCell ⟨w3.heap.size, 2, none⟩ (.int .i64 mqp) = w5 at *
  have hc5 := (O1.out.trans P5.out).heap HC.out.st (by simp)
  have c7 : w5.cell? ⟨cb, 7, none⟩ = some (.slice ao n c) := by rw [cells_of hc5]; rfl
  have c0 : w5.cell? ⟨cb, 0, none⟩ = some (.int .i64 wide) := by rw [cells_of hc5]; rfl
  clear hc5
  have hwn : wide ≠ 0 := by omega
  have hyl : y ≤ n := by rw [HY.out]; exact Nat.div_le_self _ _
  have qx : (n : Int).tmod (wide : Int) = (x : Int) := by rw [HX.out, Int.tmod_eq_emod_of_nonneg (by omega)]; rfl
  have qy : IntKind.i64.wrap ((n : Int) / (wide : Int)) = (y : Int) := by rw [show (n : Int) / (wide : Int) = (y : Int) by rw [HY.out]; rfl]; exact i64n _ (by omega)
  refine wp_region_L (by kernel_rfl) (fun w' : World => w'.cell? ⟨cb, 7, none⟩ = some (.slice ao n c) ∧ w'.cell? ⟨cb, 0, none⟩ = some (.int .i64 wide)) 23 ?_
  have hS0 : (fun w' : World => w'.cell? ⟨cb, 7, none⟩ = some (.slice ao n c) ∧ w'.cell? ⟨cb, 0, none⟩ = some (.int .i64 wide)) w5.drew := ⟨c7, c0⟩
  refine AnyL.take 0 (v := ?_) rfl (by kernel_rfl) (by kernel_rfl) (by kernel_rfl) (by kernel_rfl) (fun _ _ _ h => h) (by assumption) (Or.inl ⟨by rfl, ?_⟩) ?_
  rotate_left
  · (intro w' hSw; (try dsimp only at hSw); go_simp; try (with_reducible rfl))
  try simp only [Act.put, List.setIfInBounds_toArray, List.set_cons_zero, List.set_cons_succ]
  refine AnyL.take 1 (v := ?_) rfl (by kernel_rfl) (by kernel_rfl) (by kernel_rfl) (by kernel_rfl) (fun _ _ _ h => h) (by assumption) (Or.inl ⟨by rfl, ?_⟩) ?_
  rotate_left
  · (intro w' hSw; (try dsimp only at hSw); go_simp; try (with_reducible rfl))
  try simp only [Act.put, List.setIfInBounds_toArray, List.set_cons_zero, List.set_cons_succ]
  refine AnyL.take 2 (v := ?_) rfl (by kernel_rfl) (by kernel_rfl) (by kernel_rfl) (by kernel_rfl) (fun _ _ _ h => h) (by assumption) (Or.inl ⟨by rfl, ?_⟩) ?_
  rotate_left
  · (intro w' hSw; (try dsimp only at hSw); go_simp; try (with_reducible rfl))
  try simp only [Act.put, List.setIfInBounds_toArray, List.set_cons_zero, List.set_cons_succ]
  refine AnyL.take 3 (v := ?_) rfl (by kernel_rfl) (by kernel_rfl) (by kernel_rfl) (by kernel_rfl) (fun _ _ _ h => h) (by assumption) (Or.inl ⟨by rfl, ?_⟩) ?_
  rotate_left
  · (intro w' hSw; (try dsimp only at hSw); go_simp; try (with_reducible rfl))
  try simp only [Act.put, List.setIfInBounds_toArray, List.set_cons_zero, List.set_cons_succ]
  refine AnyL.take 4 (v := ?_) rfl (by kernel_rfl) (by kernel_rfl) (by kernel_rfl) (by kernel_rfl) (fun _ _ _ h => h) (by assumption) (Or.inl ⟨by rfl, ?_⟩) ?_
  rotate_left
  · (intro w' hSw; (try dsimp only at hSw); go_simp; try (with_reducible rfl))
  try simp only [Act.put, List.setIfInBounds_toArray, List.set_cons_zero, List.set_cons_succ]
  refine AnyL.take 5 (v := ?_) rfl (by kernel_rfl) (by kernel_rfl) (by kernel_rfl) (by kernel_rfl) (fun _ _ _ h => h) (by assumption) (Or.inl ⟨by rfl, ?_⟩) ?_
  rotate_left
  · (intro w' hSw; (try dsimp only at hSw); go_simp; try (with_reducible rfl))
  try simp only [Act.put, List.setIfInBounds_toArray, List.set_cons_zero, List.set_cons_succ]
  refine AnyL.take 6 (v := ?_) rfl (by kernel_rfl) (by kernel_rfl) (by kernel_rfl) (by kernel_rfl) (fun _ _ _ h => h) (by assumption) (Or.inl ⟨by rfl, ?_⟩) ?_
  rotate_left
  · (intro w' hSw; (try dsimp only at hSw); go_simp; try (with_reducible rfl))
  try simp only [Act.put, List.setIfInBounds_toArray, List.set_cons_zero, List.set_cons_succ]
  refine AnyL.take 7 (v := ?_) rfl (by kernel_rfl) (by kernel_rfl) (by kernel_rfl) (by kernel_rfl) (fun _ _ _ h => h) (by assumption) (Or.inl ⟨by rfl, ?_⟩) ?_
  rotate_left
  · (intro w' hSw; (try dsimp only at hSw); go_simp; try (with_reducible rfl))
  try simp only [Act.put, List.setIfInBounds_toArray, List.set_cons_zero, List.set_cons_succ]
  refine AnyL.take 8 (v := ?_) rfl (by kernel_rfl) (by kernel_rfl) (by kernel_rfl) (by kernel_rfl) (fun _ _ _ h => h) (by assumption) (Or.inl ⟨by rfl, ?_⟩) ?_
  rotate_left
  · (intro w' hSw; (try dsimp only at hSw); go_simp; try (with_reducible rfl))
  try simp only [Act.put, List.setIfInBounds_toArray, List.set_cons_zero, List.set_cons_succ]
  refine AnyL.take 9 (v := ?_) rfl (by kernel_rfl) (by kernel_rfl) (by kernel_rfl) (by kernel_rfl) (fun _ _ _ h => h) (by assumption) (Or.inl ⟨by rfl, ?_⟩) ?_
  rotate_left
  · (intro w' hSw; (try dsimp only at hSw); go_simp; try (with_reducible rfl))
  try simp only [Act.put, List.setIfInBounds_toArray, List.set_cons_zero, List.set_cons_succ]
  refine AnyL.take 10 (v := ?_) rfl (by kernel_rfl) (by kernel_rfl) (by kernel_rfl) (by kernel_rfl) (fun _ _ _ h => h) (by assumption) (Or.inl ⟨by rfl, ?_⟩) ?_
  rotate_left
  · (intro w' hSw; (try dsimp only at hSw); go_simp; try (with_reducible rfl))
  try simp only [Act.put, List.setIfInBounds_toArray, List.set_cons_zero, List.set_cons_succ]
  refine AnyL.take 11 (v := ?_) rfl (by kernel_rfl) (by kernel_rfl) (by kernel_rfl) (by kernel_rfl) (fun _ _ _ h => h) (by assumption) (Or.inl ⟨by rfl, ?_⟩) ?_
  rotate_left
  · (intro w' hSw; (try dsimp only at hSw); go_simp; try (with_reducible rfl))
  try simp only [Act.put, List.setIfInBounds_toArray, List.set_cons_zero, List.set_cons_succ]
  refine AnyL.take 12 (v := ?_) rfl (by kernel_rfl) (by kernel_rfl) (by kernel_rfl) (by kernel_rfl) (fun _ _ _ h => h) (by assumption) (Or.inl ⟨by rfl, ?_⟩) ?_
  rotate_left
  · (intro w' hSw; (try dsimp only at hSw); go_simp; try (with_reducible rfl))
  try simp only [Act.put, List.setIfInBounds_toArray, List.set_cons_zero, List.set_cons_succ]
  refine AnyL.take 13 (v := ?_) rfl (by kernel_rfl) (by kernel_rfl) (by kernel_rfl) (by kernel_rfl) (fun _ _ _ h => h) (by assumption) (Or.inl ⟨by rfl, ?_⟩) ?_
  rotate_left
  · (intro w' hSw; (try dsimp only at hSw); go_simp; try (with_reducible rfl))
  try simp only [Act.put, List.setIfInBounds_toArray, List.set_cons_zero, List.set_cons_succ]
  refine AnyL.take 14 (v := ?_) rfl (by kernel_rfl) (by kernel_rfl) (by kernel_rfl) (by kernel_rfl) (fun _ _ _ h => h) (by assumption) (Or.inl ⟨by rfl, ?_⟩) ?_
  rotate_left
  · (intro w' hSw; (try dsimp only at hSw); go_simp; try (with_reducible rfl))
  try simp only [Act.put, List.setIfInBounds_toArray, List.set_cons_zero, List.set_cons_succ]
  refine AnyL.take 15 (v := ?_) rfl (by kernel_rfl) (by kernel_rfl) (by kernel_rfl) (by kernel_rfl) (fun _ _ _ h => h) (by assumption) (Or.inl ⟨by rfl, ?_⟩) ?_
  rotate_left
  · (intro w' hSw; (try dsimp only at hSw); go_simp; try (with_reducible rfl))
  try simp only [Act.put, List.setIfInBounds_toArray, List.set_cons_zero, List.set_cons_succ]
  refine AnyL.take 16 (v := ?_) rfl (by kernel_rfl) (by kernel_rfl) (by kernel_rfl) (by kernel_rfl) (fun _ _ _ h => h) (by assumption) (Or.inl ⟨by rfl, ?_⟩) ?_
  rotate_left
  · (intro w' hSw; (try dsimp only at hSw); go_simp; try (with_reducible rfl))
  try simp only [Act.put, List.setIfInBounds_toArray, List.set_cons_zero, List.set_cons_succ]
  refine AnyL.take 17 (v := ?_) rfl (by kernel_rfl) (by kernel_rfl) (by kernel_rfl) (by kernel_rfl) (fun _ _ _ h => h) (by assumption) (Or.inl ⟨by rfl, ?_⟩) ?_
  rotate_left
  · (intro w' hSw; (try dsimp only at hSw); go_simp; try (with_reducible rfl))
  try simp only [Act.put, List.setIfInBounds_toArray, List.set_cons_zero, List.set_cons_succ]
  refine AnyL.take 18 (v := ?_) rfl (by kernel_rfl) (by kernel_rfl) (by kernel_rfl) (by kernel_rfl) (fun _ _ _ h => h) (by assumption) (Or.inl ⟨by rfl, ?_⟩) ?_
  rotate_left
  · (intro w' hSw; (try dsimp only at hSw); go_simp; try (with_reducible rfl))
  try simp only [Act.put, List.setIfInBounds_toArray, List.set_cons_zero, List.set_cons_succ]
  refine AnyL.take 19 (v := ?_) rfl (by kernel_rfl) (by kernel_rfl) (by kernel_rfl) (by kernel_rfl) (fun _ _ _ h => h) (by assumption) (Or.inl ⟨by rfl, ?_⟩) ?_
  rotate_left
  · (intro w' hSw; (try dsimp only at hSw); go_simp; try (with_reducible rfl))
  try simp only [Act.put, List.setIfInBounds_toArray, List.set_cons_zero, List.set_cons_succ]
  refine AnyL.take 20 (v := ?_) rfl (by kernel_rfl) (by kernel_rfl) (by kernel_rfl) (by kernel_rfl) (fun _ _ _ h => h) (by assumption) (Or.inl ⟨by rfl, ?_⟩) ?_
  rotate_left
  · (intro w' hSw; (try dsimp only at hSw); go_simp; try (with_reducible rfl))
  try simp only [Act.put, List.setIfInBounds_toArray, List.set_cons_zero, List.set_cons_succ]
  refine AnyL.take 21 (v := ?_) rfl (by kernel_rfl) (by kernel_rfl) (by kernel_rfl) (by kernel_rfl) (fun _ _ _ h => h) (by assumption) (Or.inl ⟨by rfl, ?_⟩) ?_
  rotate_left
  · (intro w' hSw; (try dsimp only at hSw); go_simp; try (with_reducible rfl))
  try simp only [Act.put, List.setIfInBounds_toArray, List.set_cons_zero, List.set_cons_succ]
  refine AnyL.one 22 (by kernel_rfl) rfl (fun K hK => ?_)
  go_simp
  refine hK _ _ (fun _ => ⟨cell_alloc c7, cell_alloc c0⟩) (fun hKq => ?_)
  clear hK K hKq
  try simp only [Act.put, List.setIfInBounds_toArray, List.set_cons_zero, List.set_cons_succ]
  refine AnyL.one 23 (by kernel_rfl) rfl (fun K hK => ?_)
  go_simp
  refine hK _ _ (fun h => absurd rfl h) (fun hKq => ?_)
  clear hK K hKq
  try simp only [Act.put, List.setIfInBounds_toArray, List.set_cons_zero, List.set_cons_succ]
  refine AnyL.done (by kernel_rfl) ?_ _
  clear hS0 qx qy hwn c7 c0
  have B6 : Hid (BrushAt (w5.alloc (.cells #[.pointer (some ⟨cb, 0, none⟩), .pointer (some ⟨w.heap.size, 0, none⟩), .pointer (some ⟨w3.heap.size, 0, none⟩), .int .i64 x, .int .i64 y] 99)).drew w5.heap.size cb w.heap.size w3.heap.size x y) := Lib.hid (heap_alloc_drew w5 _)
  have P6 : Hid (Only [] w3 (w5.alloc (.cells #[.pointer (some ⟨cb, 0, none⟩), .pointer (some ⟨w.heap.size, 0, none⟩), .pointer (some ⟨w3.heap.size, 0, none⟩), .int .i64 x, .int .i64 y] 99)).drew) := Lib.hid ((P5.out.alloc _).drew)
  have D6 : Hid ((w5.alloc (.cells #[.pointer (some ⟨cb, 0, none⟩), .pointer (some ⟨w.heap.size, 0, none⟩), .pointer (some ⟨w3.heap.size, 0, none⟩), .int .i64 x, .int .i64 y] 99)).drew.heap[w3.heap.size]? = some (.cells #[.pointer (some ⟨sb, 0, none⟩), .int .i64 1, .int .i64 mqp, .bool false, .bool false, .bool false, .bool false, .bool false, .bool false, .bool false, .bool false, .bool false, .bool false, .bool false, .bool false, .bool false, .bool false, .bool false, .bool false, .slice none 0 0, .slice none 0 0, .slice none 0 0, .slice none 0 0] 94 (0, 0))) := Lib.hid (heap_alloc_lt _ D5.out)
  have hz5 := P5.out.size
  have hO3 := O3.out
  generalize (w5.alloc (.cells #[.pointer (some ⟨cb, 0, none⟩), .pointer (some ⟨w.heap.size, 0, none⟩), .pointer (some ⟨w3.heap.size, 0, none⟩), .int .i64 x, .int .i64 y] 99)).drew = w6 at *
  generalize w5.heap.size = nb at *
  go_wp2_with fail
  refine (HDr.out w6 nb w.heap.size w3.heap.size (by rw [← HX.out, ← HY.out]; exact B6.out) (P6.out.heap A1.out (by simp)) D6.out (by omega) (Nat.le_refl _) (by omega) (O1.out.trans P6.out)).mono ?_
  rintro e w7 ⟨rfl, sy, su, sv, o7⟩
  have OF := Lib.hid (((O1.out.trans P6.out).mono (by simp)).trans o7)
  have SY := Lib.hid sy
  have SU := Lib.hid su
  have SV := Lib.hid sv
  clear sy su sv o7
  go_wp2
  go_ret
  refine ⟨rfl, ⟨?_, SY.out.sm, SU.out.sm, SV.out.sm, SY.out.ok, SU.out.ok, SV.out.ok, HC.out.yu, HC.out.yv, HC.out.uv⟩, OF.out⟩
  rw [HlY.out, HlU.out, HlV.out]
  exact OF.out.heap HC.out.st (by simp; exact ⟨hcy, hcu, hcv⟩)
end Go.Proofs.YtcmehedjdfopdaaGreat
