/-
  The walk over package recon's Canvas.Mb: a macroblock of whole modes that is drawn.
-/
import Derived.Test.YtcmehedjdfopdaaGreatJ23
namespace Go.Proofs.YtcmehedjdfopdaaGreat
open Go.RowKit

set_option maxRecDepth 100000 in
set_option maxHeartbeats 6400000 in
theorem mb_drawn16 {w : World} {B cb yb ub vb cy cu cv wide high n c sb : Nat} {Y U V U' V' : List Int} {ao : Option Addr} {aft : Int} (hc : CanAt w cb yb ub vb cy cu cv wide high Y U V (.slice ao n c) (.pointer (some ⟨sb, 0, none⟩)) aft) (ha : (n : Int) < aft) (hn : n ≤ 3600) (hw0 : 1 ≤ wide) (hwd : wide ≤ 60)
    {D : List Value} (hown : w.ownsRow B 94 23 (.slice ao n c) n D) (Hl Rl : List Value) (hHl : Hl.length = 21) (hRl : Rl.length = 12) {qp mqp : Int} (hs : w.heap[sb]? = some (.cells (Hl ++ Rl ++ ([.int .i64 qp] : List Value)).toArray 89 (0, 0)))
    (hb1 : B ≤ cb) (Ml : List Value) (hMl : Ml.length = 483) (hM0 : Ml[0]? = some (.int .i64 1)) (hM48 : Ml[48]? = some (.int .i64 0)) (hM49 : Ml[49]? = some (.int .i64 mqp)) (hMc : ∀ i, i < 384 → Ml[50 + i]? = some (.int .i64 0))
    (hT : ∀ wx, Calls Tryz.prog 27 #[.agg Ml.toArray, .agg Hl.toArray] wx fun e w' => e = .returned (.bool true) ∧ Only [] wx w') (hR : ∀ wx, Calls Tryz.prog 28 #[.agg Ml.toArray, .agg Hl.toArray] wx fun e w' => e = .returned (.bool true) ∧ Only [] wx w')
    (R : World → List Value → Prop) (hS : VecStable R) (G : List Int → Prop) (hlY' : ∀ Y', G Y' → Y'.length = Y.length) (hlU' : U'.length = U.length) (hlV' : V'.length = V.length) (hD : ∀ (wx : World) (b mb db : Nat), BrushAt wx b cb mb db (n % wide) (n / wide) → wx.heap[mb]? = some (.cells Ml.toArray 48 (0, 0)) → wx.heap[db]? = some (.cells (elemD sb 1 mqp nil4).toArray 94 (0, 0)) → w.heap.size ≤ b → w.heap.size ≤ mb → w.heap.size ≤ db → Only [] w wx → Calls Tryz.prog 29 #[.pointer (some ⟨b, 0, none⟩)] wx (DrawOut R G sb 1 mqp yb ub vb db U' V' wx)) :
    Calls Tryz.prog 13 #[.pointer (some ⟨cb, 0, none⟩), .agg Ml.toArray] w (MbOut R G B cb yb ub vb cy cu cv wide high n sb (.slice ao n c) 1 mqp mqp U' V' aft D Hl Rl w) := by
  have s7 : w.cell? ⟨cb, 7, none⟩ = some (.slice ao n c) := by rw [cells_of hc.st]; rfl
  have s9 : w.cell? ⟨cb, 9, none⟩ = some (.int .i64 aft) := by rw [cells_of hc.st]; rfl
  have s8 : w.cell? ⟨cb, 8, none⟩ = some (.pointer (some ⟨sb, 0, none⟩)) := by rw [cells_of hc.st]; rfl
  have hge : decide ((n : Int) ≥ aft) = false := by simp; omega
  have hcb := lt_of_block hc.st
  have hsb := lt_of_block hs
  have hwz : (wide : Int) ≠ 0 := by omega
  have hwb : ((wide : Int) == 0) = false := by simp only [beq_eq_false_iff_ne]; exact hwz
  obtain ⟨x, hx⟩ : ∃ x : Nat, x = n % wide := ⟨_, rfl⟩
  obtain ⟨y, hy⟩ : ∃ y : Nat, y = n / wide := ⟨_, rfl⟩
  have HX := Lib.hid hx
  have HY := Lib.hid hy
  clear hx hy
  have hrs : w.rangeAt sb 0 Hl := fun j v hj => by
    rw [cells_of hs, Nat.zero_add, List.getElem?_toArray, List.append_assoc, List.getElem?_append_left (List.getElem?_eq_some_iff.1 hj).1]
    exact hj
  have A0 := Lib.hid (heap_alloc_at w (.cells Ml.toArray 48))
  have OA : Hid (Only [] w (w.alloc (.cells Ml.toArray 48))) := Lib.hid ((Only.refl [] w).alloc _)
  have hrm : (w.alloc (.cells Ml.toArray 48)).rangeAt w.heap.size 0 Ml := fun j v hj => by
    rw [cells_of A0.out, Nat.zero_add, List.getElem?_toArray]
    exact hj
  have hi48 : (Tryz.prog.info? 48).map (·.size) = some Ml.length := by rw [hMl]; kernel_rfl
  have hi27 : (Tryz.prog.info? 27).map (·.size) = some Hl.length := by rw [hHl]; kernel_rfl
  have hu48 := Tryz.underlying48
  have hu27 := Tryz.underlying27
  have hSl : (Hl ++ Rl ++ ([.int .i64 qp] : List Value))[33]? = some (.int .i64 qp) := by
    rw [List.getElem?_append_right (by simp; omega)]
    simp [hHl, hRl]
  have HSl := Lib.hid hSl
  have hcy : cb ≠ yb := block_ne hc.st hc.ys.choose_spec (by decide)
  have hcu : cb ≠ ub := block_ne hc.st hc.us.choose_spec (by decide)
  have hcv : cb ≠ vb := block_ne hc.st hc.vs.choose_spec (by decide)
  have hsy : sb ≠ yb := block_ne hs hc.ys.choose_spec (by decide)
  have hsu : sb ≠ ub := block_ne hs hc.us.choose_spec (by decide)
  have hsv : sb ≠ vb := block_ne hs hc.vs.choose_spec (by decide)
  have hcs : cb ≠ sb := block_ne hc.st hs (by decide)
  have hlY := lt_of_block hc.ys.choose_spec
  have hlU := lt_of_block hc.us.choose_spec
  have hlV := lt_of_block hc.vs.choose_spec
  have HDr := Lib.hid hD
  have H21 := Lib.hid hHl
  have H12 := Lib.hid hRl
  have HlY := Lib.hid hlY'
  have HlU := Lib.hid hlU'
  have HlV := Lib.hid hlV'
  have HSt := Lib.hid hS
  have HC := Lib.hid hc
  have HS := Lib.hid hs
  have HT := Lib.hid hT
  have HR := Lib.hid hR
  have HM0 := Lib.hid hM0
  have HM48 := Lib.hid hM48
  have HM49 := Lib.hid hM49
  have HMc := Lib.hid hMc
  have HO := Lib.hid hown
  clear hc hs hD hlY' hlU' hlV' hS hT hR hM0 hM48 hM49 hMc hown hHl hRl hMl hSl
  go_enter Tryz.func13, Tryz.ntmps13
  go_wp2_with fail
  go_quiet (fail)
  rename_i nq
  have A1 : Hid (((w.alloc (.cells Ml.toArray 48)).drewN nq).heap[w.heap.size]? = some (.cells Ml.toArray 48 (0, 0))) := Lib.hid A0.out
  have r1 : ((w.alloc (.cells Ml.toArray 48)).drewN nq).rangeAt w.heap.size 0 Ml := hrm
  have r2 : ((w.alloc (.cells Ml.toArray 48)).drewN nq).rangeAt sb 0 Hl := range_alloc hrs
  have c8 : ((w.alloc (.cells Ml.toArray 48)).drewN nq).cell? ⟨cb, 8, none⟩ = some (.pointer (some ⟨sb, 0, none⟩)) := cell_alloc s8
  have O1 := Lib.hid (OA.out.drewN nq)
  clear A0 OA hrm hrs s7 s9 s8
  generalize (w.alloc (.cells Ml.toArray 48)).drewN nq = w1 at *
  go_wp2_with fail
  refine wp_region_L (by kernel_rfl) (fun w' : World => w'.rangeAt w.heap.size 0 Ml ∧ w'.cell? ⟨cb, 8, none⟩ = some (.pointer (some ⟨sb, 0, none⟩)) ∧ w'.rangeAt sb 0 Hl) 10 ?_
  have hS0 : (fun w' : World => w'.rangeAt w.heap.size 0 Ml ∧ w'.cell? ⟨cb, 8, none⟩ = some (.pointer (some ⟨sb, 0, none⟩)) ∧ w'.rangeAt sb 0 Hl) w1.drew := ⟨r1, c8, r2⟩
  refine AnyL.take 0 rfl (by kernel_rfl) (by kernel_rfl) (by kernel_rfl) (by kernel_rfl) (fun _ _ _ h => h) (by assumption) (yieldsIf_load_mid (by rfl) _ _ rfl w.heap.size 0 rfl Ml _ (fun w' h => h.1) hu48 rfl hi48) ?_
  try simp only [Act.put, List.setIfInBounds_toArray, List.set_cons_zero, List.set_cons_succ]
  refine AnyL.take 1 (v := ?_) rfl (by kernel_rfl) (by kernel_rfl) (by kernel_rfl) (by kernel_rfl) (fun _ _ _ h => h) (by assumption) (Or.inl ⟨by rfl, ?_⟩) ?_
  rotate_left
  · (intro w' hSw; (try dsimp only at hSw); go_simp; try (with_reducible rfl))
  try simp only [Act.put, List.setIfInBounds_toArray, List.set_cons_zero, List.set_cons_succ]
  refine AnyL.take 2 (v := ?_) rfl (by kernel_rfl) (by kernel_rfl) (by kernel_rfl) (by kernel_rfl) (fun _ _ _ h => h) (by assumption) (Or.inl ⟨by rfl, ?_⟩) ?_
  rotate_left
  · (intro w' hSw; (try dsimp only at hSw); go_simp; try (with_reducible rfl))
  try simp only [Act.put, List.setIfInBounds_toArray, List.set_cons_zero, List.set_cons_succ]
  refine AnyL.take 3 (v := ?_) rfl (by kernel_rfl) (by kernel_rfl) (by kernel_rfl) (by kernel_rfl) (fun _ _ _ h => h) (by assumption) (Or.inl ⟨by rfl, ?_⟩) ?_
  rotate_left
  · (intro w' hSw; (try dsimp only at hSw); go_simp; try (with_reducible rfl))
  try simp only [Act.put, List.setIfInBounds_toArray, List.set_cons_zero, List.set_cons_succ]
  refine AnyL.take 4 (v := ?_) rfl (by kernel_rfl) (by kernel_rfl) (by kernel_rfl) (by kernel_rfl) (fun _ _ _ h => h) (by assumption) (Or.inl ⟨by rfl, ?_⟩) ?_
  rotate_left
  · (intro w' hSw; (try dsimp only at hSw); go_simp; try (with_reducible rfl))
  try simp only [Act.put, List.setIfInBounds_toArray, List.set_cons_zero, List.set_cons_succ]
  refine AnyL.take 5 (v := ?_) rfl (by kernel_rfl) (by kernel_rfl) (by kernel_rfl) (by kernel_rfl) (fun _ _ _ h => h) (by assumption) (Or.inl ⟨by rfl, ?_⟩) ?_
  rotate_left
  · (intro w' hSw; (try dsimp only at hSw); go_simp; try (with_reducible rfl))
  try simp only [Act.put, List.setIfInBounds_toArray, List.set_cons_zero, List.set_cons_succ]
  refine AnyL.take 6 (v := ?_) rfl (by kernel_rfl) (by kernel_rfl) (by kernel_rfl) (by kernel_rfl) (fun _ _ _ h => h) (by assumption) (Or.inl ⟨by rfl, ?_⟩) ?_
  rotate_left
  · (intro w' hSw; (try dsimp only at hSw); go_simp; try (with_reducible rfl))
  try simp only [Act.put, List.setIfInBounds_toArray, List.set_cons_zero, List.set_cons_succ]
  refine AnyL.take 7 rfl (by kernel_rfl) (by kernel_rfl) (by kernel_rfl) (by kernel_rfl) (fun _ _ _ h => h) (by assumption) (yieldsIf_load_mid (by rfl) _ _ rfl sb 0 rfl Hl _ (fun w' h => h.2.2) hu27 rfl hi27) ?_
  try simp only [Act.put, List.setIfInBounds_toArray, List.set_cons_zero, List.set_cons_succ]
  refine AnyL.one 8 (by kernel_rfl) rfl (fun K hK => ?_)
  go_simp
  refine (HT.out _).mono ?_
  rintro rr w2 ⟨rfl, gn⟩
  have g1 : Only [] w1 w2 := (Only.refl [] w1).drew.trans gn
  have OT := Lib.hid (O1.out.trans g1)
  have x1 := range_only r1 g1 (by simp)
  have x2 := g1.cell c8 (by simp)
  have x3 := range_only r2 g1 (by simp)
  have A2 := Lib.hid (g1.heap A1.out (by simp))
  clear r1 c8 r2 gn g1 hS0 O1 A1
  have r1 := x1
  have c8 := x2
  have r2 := x3
  have O1 := OT
  have A1 := A2
  clear x1 x2 x3 OT A2
  refine hK _ _ (fun _ => ⟨r1, c8, r2⟩) (fun hKq => ?_)
  clear hK K hKq
  try simp only [Act.put, List.setIfInBounds_toArray, List.set_cons_zero, List.set_cons_succ]
  have hS0 : (fun w' : World => w'.rangeAt w.heap.size 0 Ml ∧ w'.cell? ⟨cb, 8, none⟩ = some (.pointer (some ⟨sb, 0, none⟩)) ∧ w'.rangeAt sb 0 Hl) w2 := ⟨r1, c8, r2⟩
  refine AnyL.take 9 (v := ?_) rfl (by kernel_rfl) (by kernel_rfl) (by kernel_rfl) (by kernel_rfl) (fun _ _ _ h => h) (by assumption) (Or.inl ⟨by rfl, ?_⟩) ?_
  rotate_left
  · (intro w' hSw; (try dsimp only at hSw); go_simp; try (with_reducible rfl))
  try simp only [Act.put, List.setIfInBounds_toArray, List.set_cons_zero, List.set_cons_succ]
  refine AnyL.one 10 (by kernel_rfl) rfl (fun K hK => ?_)
  go_simp
  refine hK _ _ (fun h => absurd rfl h) (fun hKq => ?_)
  clear hK K hKq
  try simp only [Act.put, List.setIfInBounds_toArray, List.set_cons_zero, List.set_cons_succ]
  refine AnyL.done (by kernel_rfl) ?_ _
  clear hS0
  go_wp2_with fail
  refine wp_region_L (by kernel_rfl) (fun w' : World => w'.rangeAt w.heap.size 0 Ml ∧ w'.cell? ⟨cb, 8, none⟩ = some (.pointer (some ⟨sb, 0, none⟩)) ∧ w'.rangeAt sb 0 Hl) 10 ?_
  have hS0 : (fun w' : World => w'.rangeAt w.heap.size 0 Ml ∧ w'.cell? ⟨cb, 8, none⟩ = some (.pointer (some ⟨sb, 0, none⟩)) ∧ w'.rangeAt sb 0 Hl) w2.drew := ⟨r1, c8, r2⟩
  refine AnyL.take 0 rfl (by kernel_rfl) (by kernel_rfl) (by kernel_rfl) (by kernel_rfl) (fun _ _ _ h => h) (by assumption) (yieldsIf_load_mid (by rfl) _ _ rfl w.heap.size 0 rfl Ml _ (fun w' h => h.1) hu48 rfl hi48) ?_
  try simp only [Act.put, List.setIfInBounds_toArray, List.set_cons_zero, List.set_cons_succ]
  refine AnyL.take 1 (v := ?_) rfl (by kernel_rfl) (by kernel_rfl) (by kernel_rfl) (by kernel_rfl) (fun _ _ _ h => h) (by assumption) (Or.inl ⟨by rfl, ?_⟩) ?_
  rotate_left
  · (intro w' hSw; (try dsimp only at hSw); go_simp; try (with_reducible rfl))
  try simp only [Act.put, List.setIfInBounds_toArray, List.set_cons_zero, List.set_cons_succ]
  refine AnyL.take 2 (v := ?_) rfl (by kernel_rfl) (by kernel_rfl) (by kernel_rfl) (by kernel_rfl) (fun _ _ _ h => h) (by assumption) (Or.inl ⟨by rfl, ?_⟩) ?_
  rotate_left
  · (intro w' hSw; (try dsimp only at hSw); go_simp; try (with_reducible rfl))
  try simp only [Act.put, List.setIfInBounds_toArray, List.set_cons_zero, List.set_cons_succ]
  refine AnyL.take 3 (v := ?_) rfl (by kernel_rfl) (by kernel_rfl) (by kernel_rfl) (by kernel_rfl) (fun _ _ _ h => h) (by assumption) (Or.inl ⟨by rfl, ?_⟩) ?_
  rotate_left
  · (intro w' hSw; (try dsimp only at hSw); go_simp; try (with_reducible rfl))
  try simp only [Act.put, List.setIfInBounds_toArray, List.set_cons_zero, List.set_cons_succ]
  refine AnyL.take 4 (v := ?_) rfl (by kernel_rfl) (by kernel_rfl) (by kernel_rfl) (by kernel_rfl) (fun _ _ _ h => h) (by assumption) (Or.inl ⟨by rfl, ?_⟩) ?_
  rotate_left
  · (intro w' hSw; (try dsimp only at hSw); go_simp; try (with_reducible rfl))
  try simp only [Act.put, List.setIfInBounds_toArray, List.set_cons_zero, List.set_cons_succ]
  refine AnyL.take 5 (v := ?_) rfl (by kernel_rfl) (by kernel_rfl) (by kernel_rfl) (by kernel_rfl) (fun _ _ _ h => h) (by assumption) (Or.inl ⟨by rfl, ?_⟩) ?_
  rotate_left
  · (intro w' hSw; (try dsimp only at hSw); go_simp; try (with_reducible rfl))
  try simp only [Act.put, List.setIfInBounds_toArray, List.set_cons_zero, List.set_cons_succ]
  refine AnyL.take 6 (v := ?_) rfl (by kernel_rfl) (by kernel_rfl) (by kernel_rfl) (by kernel_rfl) (fun _ _ _ h => h) (by assumption) (Or.inl ⟨by rfl, ?_⟩) ?_
  rotate_left
  · (intro w' hSw; (try dsimp only at hSw); go_simp; try (with_reducible rfl))
  try simp only [Act.put, List.setIfInBounds_toArray, List.set_cons_zero, List.set_cons_succ]
  refine AnyL.take 7 rfl (by kernel_rfl) (by kernel_rfl) (by kernel_rfl) (by kernel_rfl) (fun _ _ _ h => h) (by assumption) (yieldsIf_load_mid (by rfl) _ _ rfl sb 0 rfl Hl _ (fun w' h => h.2.2) hu27 rfl hi27) ?_
  try simp only [Act.put, List.setIfInBounds_toArray, List.set_cons_zero, List.set_cons_succ]
  refine AnyL.one 8 (by kernel_rfl) rfl (fun K hK => ?_)
  go_simp
  refine (HR.out _).mono ?_
  rintro rr w3 ⟨rfl, gn⟩
  have g1 : Only [] w2 w3 := (Only.refl [] w2).drew.trans gn
  have OR := Lib.hid (O1.out.trans g1)
  have x1 := range_only r1 g1 (by simp)
  have x2 := g1.cell c8 (by simp)
  have x3 := range_only r2 g1 (by simp)
  have A2 := Lib.hid (g1.heap A1.out (by simp))
  clear r1 c8 r2 gn g1 hS0 O1 A1
  have r1 := x1
  have c8 := x2
  have r2 := x3
  have O1 := OR
  have A1 := A2
  clear x1 x2 x3 OR A2
  refine hK _ _ (fun _ => ⟨r1, c8, r2⟩) (fun hKq => ?_)
  clear hK K hKq
  try simp only [Act.put, List.setIfInBounds_toArray, List.set_cons_zero, List.set_cons_succ]
  have hS0 : (fun w' : World => w'.rangeAt w.heap.size 0 Ml ∧ w'.cell? ⟨cb, 8, none⟩ = some (.pointer (some ⟨sb, 0, none⟩)) ∧ w'.rangeAt sb 0 Hl) w3 := ⟨r1, c8, r2⟩
  refine AnyL.take 9 (v := ?_) rfl (by kernel_rfl) (by kernel_rfl) (by kernel_rfl) (by kernel_rfl) (fun _ _ _ h => h) (by assumption) (Or.inl ⟨by rfl, ?_⟩) ?_
  rotate_left
  · (intro w' hSw; (try dsimp only at hSw); go_simp; try (with_reducible rfl))
  try simp only [Act.put, List.setIfInBounds_toArray, List.set_cons_zero, List.set_cons_succ]
  refine AnyL.one 10 (by kernel_rfl) rfl (fun K hK => ?_)
  go_simp
  refine hK _ _ (fun h => absurd rfl h) (fun hKq => ?_)
  clear hK K hKq
  try simp only [Act.put, List.setIfInBounds_toArray, List.set_cons_zero, List.set_cons_succ]
  refine AnyL.done (by kernel_rfl) ?_ _
  clear hS0
  have k0 : w3.cell? ⟨w.heap.size, 0, none⟩ = some (.int .i64 1) := by rw [cells_of A1.out, List.getElem?_toArray]; exact HM0.out
  have S3 := Lib.hid (O1.out.heap HS.out (by simp))
  have k33 : w3.cell? ⟨sb, 33, none⟩ = some (.int .i64 qp) := by rw [cells_of S3.out, List.getElem?_toArray, HSl.out]
  have k49 : w3.cell? ⟨w.heap.size, 49, none⟩ = some (.int .i64 mqp) := by rw [cells_of A1.out, List.getElem?_toArray]; exact HM49.out
  clear r1 r2
  go_wp2_with fail
  refine wp_region_L (by kernel_rfl) (fun w' : World => w'.cell? ⟨cb, 8, none⟩ = some (.pointer (some ⟨sb, 0, none⟩)) ∧ w'.cell? ⟨w.heap.size, 0, none⟩ = some (.int .i64 1) ∧ w'.cell? ⟨sb, 33, none⟩ = some (.int .i64 qp)) 15 ?_
  have hS0 : (fun w' : World => w'.cell? ⟨cb, 8, none⟩ = some (.pointer (some ⟨sb, 0, none⟩)) ∧ w'.cell? ⟨w.heap.size, 0, none⟩ = some (.int .i64 1) ∧ w'.cell? ⟨sb, 33, none⟩ = some (.int .i64 qp)) w3.drew := ⟨c8, k0, k33⟩
  refine AnyL.take 0 (v := ?_) rfl (by kernel_rfl) (by kernel_rfl) (by kernel_rfl) (by kernel_rfl) (fun _ _ _ h => h) (by assumption) (Or.inl ⟨by rfl, ?_⟩) ?_
  rotate_left
  · (intro w' hSw; (try dsimp only at hSw); go_simp; try (with_reducible rfl))
  try simp only [Act.put, List.setIfInBounds_toArray, List.set_cons_zero, List.set_cons_succ]
  refine AnyL.take 1 (v := ?_) rfl (by kernel_rfl) (by kernel_rfl) (by kernel_rfl) (by kernel_rfl) (fun _ _ _ h => h) (by assumption) (Or.inl ⟨by rfl, ?_⟩) ?_
  rotate_left
  · (intro w' hSw; (try dsimp only at hSw); go_simp; try (with_reducible rfl))
  try simp only [Act.put, List.setIfInBounds_toArray, List.set_cons_zero, List.set_cons_succ]
  refine AnyL.take 2 (v := ?_) rfl (by kernel_rfl) (by kernel_rfl) (by kernel_rfl) (by kernel_rfl) (fun _ _ _ h => h) (by assumption) (Or.inl ⟨by rfl, ?_⟩) ?_
  rotate_left
  · (intro w' hSw; (try dsimp only at hSw); go_simp; try (with_reducible rfl))
  try simp only [Act.put, List.setIfInBounds_toArray, List.set_cons_zero, List.set_cons_succ]
  refine AnyL.take 3 (v := ?_) rfl (by kernel_rfl) (by kernel_rfl) (by kernel_rfl) (by kernel_rfl) (fun _ _ _ h => h) (by assumption) (Or.inl ⟨by rfl, ?_⟩) ?_
  rotate_left
  · (intro w' hSw; (try dsimp only at hSw); go_simp; try (with_reducible rfl))
  try simp only [Act.put, List.setIfInBounds_toArray, List.set_cons_zero, List.set_cons_succ]
  refine AnyL.take 4 (v := ?_) rfl (by kernel_rfl) (by kernel_rfl) (by kernel_rfl) (by kernel_rfl) (fun _ _ _ h => h) (by assumption) (Or.inl ⟨by rfl, ?_⟩) ?_
  rotate_left
  · (intro w' hSw; (try dsimp only at hSw); go_simp; try (with_reducible rfl))
  try simp only [Act.put, List.setIfInBounds_toArray, List.set_cons_zero, List.set_cons_succ]
  refine AnyL.take 5 (v := ?_) rfl (by kernel_rfl) (by kernel_rfl) (by kernel_rfl) (by kernel_rfl) (fun _ _ _ h => h) (by assumption) (Or.inl ⟨by rfl, ?_⟩) ?_
  rotate_left
  · (intro w' hSw; (try dsimp only at hSw); go_simp; try (with_reducible rfl))
  try simp only [Act.put, List.setIfInBounds_toArray, List.set_cons_zero, List.set_cons_succ]
  refine AnyL.take 6 (v := ?_) rfl (by kernel_rfl) (by kernel_rfl) (by kernel_rfl) (by kernel_rfl) (fun _ _ _ h => h) (by assumption) (Or.inl ⟨by rfl, ?_⟩) ?_
  rotate_left
  · (intro w' hSw; (try dsimp only at hSw); go_simp; try (with_reducible rfl))
  try simp only [Act.put, List.setIfInBounds_toArray, List.set_cons_zero, List.set_cons_succ]
  refine AnyL.take 7 (v := ?_) rfl (by kernel_rfl) (by kernel_rfl) (by kernel_rfl) (by kernel_rfl) (fun _ _ _ h => h) (by assumption) (Or.inl ⟨by rfl, ?_⟩) ?_
  rotate_left
  · (intro w' hSw; (try dsimp only at hSw); go_simp; try (with_reducible rfl))
  try simp only [Act.put, List.setIfInBounds_toArray, List.set_cons_zero, List.set_cons_succ]
  refine AnyL.take 8 (v := ?_) rfl (by kernel_rfl) (by kernel_rfl) (by kernel_rfl) (by kernel_rfl) (fun _ _ _ h => h) (by assumption) (Or.inl ⟨by rfl, ?_⟩) ?_
  rotate_left
  · (intro w' hSw; (try dsimp only at hSw); go_simp; try (with_reducible rfl))
  try simp only [Act.put, List.setIfInBounds_toArray, List.set_cons_zero, List.set_cons_succ]
  refine AnyL.take 9 (v := ?_) rfl (by kernel_rfl) (by kernel_rfl) (by kernel_rfl) (by kernel_rfl) (fun _ _ _ h => h) (by assumption) (Or.inl ⟨by rfl, ?_⟩) ?_
  rotate_left
  · (intro w' hSw; (try dsimp only at hSw); go_simp; try (with_reducible rfl))
  try simp only [Act.put, List.setIfInBounds_toArray, List.set_cons_zero, List.set_cons_succ]
  refine AnyL.take 10 (v := ?_) rfl (by kernel_rfl) (by kernel_rfl) (by kernel_rfl) (by kernel_rfl) (fun _ _ _ h => h) (by assumption) (Or.inl ⟨by rfl, ?_⟩) ?_
  rotate_left
  · (intro w' hSw; (try dsimp only at hSw); go_simp; try (with_reducible rfl))
  try simp only [Act.put, List.setIfInBounds_toArray, List.set_cons_zero, List.set_cons_succ]
  refine AnyL.take 11 (v := ?_) rfl (by kernel_rfl) (by kernel_rfl) (by kernel_rfl) (by kernel_rfl) (fun _ _ _ h => h) (by assumption) (Or.inl ⟨by rfl, ?_⟩) ?_
  rotate_left
  · (intro w' hSw; (try dsimp only at hSw); go_simp; try (with_reducible rfl))
  try simp only [Act.put, List.setIfInBounds_toArray, List.set_cons_zero, List.set_cons_succ]
  refine AnyL.take 12 (v := ?_) rfl (by kernel_rfl) (by kernel_rfl) (by kernel_rfl) (by kernel_rfl) (fun _ _ _ h => h) (by assumption) (Or.inl ⟨by rfl, ?_⟩) ?_
  rotate_left
  · (intro w' hSw; (try dsimp only at hSw); go_simp; try (with_reducible rfl))
  try simp only [Act.put, List.setIfInBounds_toArray, List.set_cons_zero, List.set_cons_succ]
  refine AnyL.take 13 (v := ?_) rfl (by kernel_rfl) (by kernel_rfl) (by kernel_rfl) (by kernel_rfl) (fun _ _ _ h => h) (by assumption) (Or.inl ⟨by rfl, ?_⟩) ?_
  rotate_left
  · (intro w' hSw; (try dsimp only at hSw); go_simp; try (with_reducible rfl))
  try simp only [Act.put, List.setIfInBounds_toArray, List.set_cons_zero, List.set_cons_succ]
  refine AnyL.one 14 (by kernel_rfl) rfl (fun K hK => ?_)
  go_simp
  refine hK _ _ (fun _ => ⟨cell_alloc c8, cell_alloc k0, cell_alloc k33⟩) (fun hKq => ?_)
  clear hK K hKq
  try simp only [Act.put, List.setIfInBounds_toArray, List.set_cons_zero, List.set_cons_succ]
  refine AnyL.one 15 (by kernel_rfl) rfl (fun K hK => ?_)
  rw [if_pos (by rfl)]
  refine wp_store_mid _ _ _ rfl w3.heap.size 0 #[.pointer (some ⟨sb, 0, none⟩), .int .i64 1, .int .i64 qp, .bool false, .bool false, .bool false, .bool false, .bool false, .bool false, .bool false, .bool false, .bool false, .bool false, .bool false, .bool false, .bool false, .bool false, .bool false, .bool false, .slice none 0 0, .slice none 0 0, .slice none 0 0, .slice none 0 0] rfl rfl (there_of (heap_alloc_drew w3 _) (Nat.le_refl 23)) (by kernel_rfl) (by simp [Value.oneCell']) ?_
  refine hK _ _ (fun h => absurd rfl h) (fun hKq => ?_)
  clear hK K hKq
  try dsimp only [Act.put]
  refine AnyL.done (by kernel_rfl) ?_ _
  clear hS0
  have D4 : Hid ((((w3.alloc (.cells #[.pointer none, .int .i64 0, .int .i64 0, .bool false, .bool false, .bool false, .bool false, .bool false, .bool false, .bool false, .bool false, .bool false, .bool false, .bool false, .bool false, .bool false, .bool false, .bool false, .bool false, .slice none 0 0, .slice none 0 0, .slice none 0 0, .slice none 0 0] 94)).drew).setCells w3.heap.size 0 [.pointer (some ⟨sb, 0, none⟩), .int .i64 1, .int .i64 qp, .bool false, .bool false, .bool false, .bool false, .bool false, .bool false, .bool false, .bool false, .bool false, .bool false, .bool false, .bool false, .bool false, .bool false, .bool false, .bool false, .slice none 0 0, .slice none 0 0, .slice none 0 0, .slice none 0 0]).heap[w3.heap.size]? = some (.cells #[.pointer (some ⟨sb, 0, none⟩), .int .i64 1, .int .i64 qp, .bool false, .bool false, .bool false, .bool false, .bool false, .bool false, .bool false, .bool false, .bool false, .bool false, .bool false, .bool false, .bool false, .bool false, .bool false, .bool false, .slice none 0 0, .slice none 0 0, .slice none 0 0, .slice none 0 0] 94 (0, 0))) := Lib.hid (row_over (Z := #[.pointer (some ⟨sb, 0, none⟩), .int .i64 1, .int .i64 qp, .bool false, .bool false, .bool false, .bool false, .bool false, .bool false, .bool false, .bool false, .bool false, .bool false, .bool false, .bool false, .bool false, .bool false, .bool false, .bool false, .slice none 0 0, .slice none 0 0, .slice none 0 0, .slice none 0 0]) (heap_alloc_drew w3 _) rfl)
  have P4 : Hid (Only [] w3 (((w3.alloc (.cells #[.pointer none, .int .i64 0, .int .i64 0, .bool false, .bool false, .bool false, .bool false, .bool false, .bool false, .bool false, .bool false, .bool false, .bool false, .bool false, .bool false, .bool false, .bool false, .bool false, .bool false, .slice none 0 0, .slice none 0 0, .slice none 0 0, .slice none 0 0] 94)).drew).setCells w3.heap.size 0 [.pointer (some ⟨sb, 0, none⟩), .int .i64 1, .int .i64 qp, .bool false, .bool false, .bool false, .bool false, .bool false, .bool false, .bool false, .bool false, .bool false, .bool false, .bool false, .bool false, .bool false, .bool false, .bool false, .bool false, .slice none 0 0, .slice none 0 0, .slice none 0 0, .slice none 0 0])) := Lib.hid ((((Only.refl [] w3).alloc _).drew).trans' (only_setCells w3.heap.size _ 0 _) (fun i hi => .inr (by simp only [List.mem_singleton] at hi; omega)))
  generalize ((w3.alloc (.cells #[.pointer none, .int .i64 0, .int .i64 0, .bool false, .bool false, .bool false, .bool false, .bool false, .bool false, .bool false, .bool false, .bool false, .bool false, .bool false, .bool false, .bool false, .bool false, .bool false, .bool false, .slice none 0 0, .slice none 0 0, .slice none 0 0, .slice none 0 0] 94)).drew).setCells w3.heap.size 0 [.pointer (some ⟨sb, 0, none⟩), .int .i64 1, .int .i64 qp, .bool false, .bool false, .bool false, .bool false, .bool false, .bool false, .bool false, .bool false, .bool false, .bool false, .bool false, .bool false, .bool false, .bool false, .bool false, .bool false, .slice none 0 0, .slice none 0 0, .slice none 0 0, .slice none 0 0] = w4 at *
  have hn3 := lt_of_block A1.out
  have e0 := P4.out.cell k0 (by simp)
  have e49 := P4.out.cell k49 (by simp)
  have d2 : w4.cell? ⟨w3.heap.size, 2, none⟩ = some (.int .i64 qp) := by rw [cells_of D4.out]; rfl
  have z2 := free_of D4.out 2
  have D5 : Hid ((w4.setCell ⟨w3.heap.size, 2, none⟩ (.int .i64 mqp)).heap[w3.heap.size]? = some (.cells #[.pointer (some ⟨sb, 0, none⟩), .int .i64 1, .int .i64 mqp, .bool false, .bool false, .bool false, .bool false, .bool false, .bool false, .bool false, .bool false, .bool false, .bool false, .bool false, .bool false, .bool false, .bool false, .bool false, .bool false, .slice none 0 0, .slice none 0 0, .slice none 0 0, .slice none 0 0] 94 (0, 0))) := Lib.hid (heap_set_same (i := 2) (.int .i64 mqp) D4.out)
  have P5 : Hid (Only [] w3 (w4.setCell ⟨w3.heap.size, 2, none⟩ (.int .i64 mqp))) := Lib.hid (P4.out.setCell (.inr (Nat.le_refl _)) _)
  have O3 := Lib.hid O1.out.size
  clear k0 k33 k49 c8 P4 hu48 hi48 hu27 hi27
  go_wp2_with fail
  clear e0 e49 d2 z2 D4
  generalize w4.setCell ⟨w3.heap.size, 2, none⟩ (.int .i64 mqp) = w5 at *
  have hc5 := (O1.out.trans P5.out).heap HC.out.st (by simp)
  have c7 : w5.cell? ⟨cb, 7, none⟩ = some (.slice ao n c) := by rw [cells_of hc5]; rfl
  have c0 : w5.cell? ⟨cb, 0, none⟩ = some (.int .i64 wide) := by rw [cells_of hc5]; rfl
  clear hc5
  have hwn : wide ≠ 0 := by omega
  have hyl : y ≤ n := by rw [HY.out]; exact Nat.div_le_self _ _
  have qx : (n : Int).tmod (wide : Int) = (x : Int) := by rw [HX.out, Int.tmod_eq_emod_of_nonneg (by omega)]; rfl
  have qy : IntKind.i64.wrap ((n : Int) / (wide : Int)) = (y : Int) := by rw [show (n : Int) / (wide : Int) = (y : Int) by rw [HY.out]; rfl]; exact i64n _ (by omega)
  refine wp_region_L (by kernel_rfl) (fun w' : World => w'.cell? ⟨cb, 7, none⟩ = some (.slice ao n c) ∧ w'.cell? ⟨cb, 0, none⟩ = some (.int .i64 wide)) 23 ?_
  have hS0 : (fun w' : World => w'.cell? ⟨cb, 7, none⟩ = some (.slice ao n c) ∧ w'.cell? ⟨cb, 0, none⟩ = some (.int .i64 wide)) w5.drew := ⟨c7, c0⟩
  refine AnyL.take 0 (v := ?_) rfl (by kernel_rfl) (by kernel_rfl) (by kernel_rfl) (by kernel_rfl) (fun _ _ _ h => h) (by assumption) (Or.inl ⟨by rfl, ?_⟩) ?_
  rotate_left
  · (intro w' hSw; (try dsimp only at hSw); go_simp; try (with_reducible rfl))
  try simp only [Act.put, List.setIfInBounds_toArray, List.set_cons_zero, List.set_cons_succ]
  refine AnyL.take 1 (v := ?_) rfl (by kernel_rfl) (by kernel_rfl) (by kernel_rfl) (by kernel_rfl) (fun _ _ _ h => h) (by assumption) (Or.inl ⟨by rfl, ?_⟩) ?_
  rotate_left
  · (intro w' hSw; (try dsimp only at hSw); go_simp; try (with_reducible rfl))
  try simp only [Act.put, List.setIfInBounds_toArray, List.set_cons_zero, List.set_cons_succ]
  refine AnyL.take 2 (v := ?_) rfl (by kernel_rfl) (by kernel_rfl) (by kernel_rfl) (by kernel_rfl) (fun _ _ _ h => h) (by assumption) (Or.inl ⟨by rfl, ?_⟩) ?_
  rotate_left
  · (intro w' hSw; (try dsimp only at hSw); go_simp; try (with_reducible rfl))
  try simp only [Act.put, List.setIfInBounds_toArray, List.set_cons_zero, List.set_cons_succ]
  refine AnyL.take 3 (v := ?_) rfl (by kernel_rfl) (by kernel_rfl) (by kernel_rfl) (by kernel_rfl) (fun _ _ _ h => h) (by assumption) (Or.inl ⟨by rfl, ?_⟩) ?_
  rotate_left
  · (intro w' hSw; (try dsimp only at hSw); go_simp; try (with_reducible rfl))
  try simp only [Act.put, List.setIfInBounds_toArray, List.set_cons_zero, List.set_cons_succ]
  refine AnyL.take 4 (v := ?_) rfl (by kernel_rfl) (by kernel_rfl) (by kernel_rfl) (by kernel_rfl) (fun _ _ _ h => h) (by assumption) (Or.inl ⟨by rfl, ?_⟩) ?_
  rotate_left
  · (intro w' hSw; (try dsimp only at hSw); go_simp; try (with_reducible rfl))
  try simp only [Act.put, List.setIfInBounds_toArray, List.set_cons_zero, List.set_cons_succ]
  refine AnyL.take 5 (v := ?_) rfl (by kernel_rfl) (by kernel_rfl) (by kernel_rfl) (by kernel_rfl) (fun _ _ _ h => h) (by assumption) (Or.inl ⟨by rfl, ?_⟩) ?_
  rotate_left
  · (intro w' hSw; (try dsimp only at hSw); go_simp; try (with_reducible rfl))
  try simp only [Act.put, List.setIfInBounds_toArray, List.set_cons_zero, List.set_cons_succ]
  refine AnyL.take 6 (v := ?_) rfl (by kernel_rfl) (by kernel_rfl) (by kernel_rfl) (by kernel_rfl) (fun _ _ _ h => h) (by assumption) (Or.inl ⟨by rfl, ?_⟩) ?_
  rotate_left
  · (intro w' hSw; (try dsimp only at hSw); go_simp; try (with_reducible rfl))
  try simp only [Act.put, List.setIfInBounds_toArray, List.set_cons_zero, List.set_cons_succ]
  refine AnyL.take 7 (v := ?_) rfl (by kernel_rfl) (by kernel_rfl) (by kernel_rfl) (by kernel_rfl) (fun _ _ _ h => h) (by assumption) (Or.inl ⟨by rfl, ?_⟩) ?_
  rotate_left
  · (intro w' hSw; (try dsimp only at hSw); go_simp; try (with_reducible rfl))
  try simp only [Act.put, List.setIfInBounds_toArray, List.set_cons_zero, List.set_cons_succ]
  refine AnyL.take 8 (v := ?_) rfl (by kernel_rfl) (by kernel_rfl) (by kernel_rfl) (by kernel_rfl) (fun _ _ _ h => h) (by assumption) (Or.inl ⟨by rfl, ?_⟩) ?_
  rotate_left
  · (intro w' hSw; (try dsimp only at hSw); go_simp; try (with_reducible rfl))
  try simp only [Act.put, List.setIfInBounds_toArray, List.set_cons_zero, List.set_cons_succ]
  refine AnyL.take 9 (v := ?_) rfl (by kernel_rfl) (by kernel_rfl) (by kernel_rfl) (by kernel_rfl) (fun _ _ _ h => h) (by assumption) (Or.inl ⟨by rfl, ?_⟩) ?_
  rotate_left
  · (intro w' hSw; (try dsimp only at hSw); go_simp; try (with_reducible rfl))
  try simp only [Act.put, List.setIfInBounds_toArray, List.set_cons_zero, List.set_cons_succ]
  refine AnyL.take 10 (v := ?_) rfl (by kernel_rfl) (by kernel_rfl) (by kernel_rfl) (by kernel_rfl) (fun _ _ _ h => h) (by assumption) (Or.inl ⟨by rfl, ?_⟩) ?_
  rotate_left
  · (intro w' hSw; (try dsimp only at hSw); go_simp; try (with_reducible rfl))
  try simp only [Act.put, List.setIfInBounds_toArray, List.set_cons_zero, List.set_cons_succ]
  refine AnyL.take 11 (v := ?_) rfl (by kernel_rfl) (by kernel_rfl) (by kernel_rfl) (by kernel_rfl) (fun _ _ _ h => h) (by assumption) (Or.inl ⟨by rfl, ?_⟩) ?_
  rotate_left
  · (intro w' hSw; (try dsimp only at hSw); go_simp; try (with_reducible rfl))
  try simp only [Act.put, List.setIfInBounds_toArray, List.set_cons_zero, List.set_cons_succ]
  refine AnyL.take 12 (v := ?_) rfl (by kernel_rfl) (by kernel_rfl) (by kernel_rfl) (by kernel_rfl) (fun _ _ _ h => h) (by assumption) (Or.inl ⟨by rfl, ?_⟩) ?_
  rotate_left
  · (intro w' hSw; (try dsimp only at hSw); go_simp; try (with_reducible rfl))
  try simp only [Act.put, List.setIfInBounds_toArray, List.set_cons_zero, List.set_cons_succ]
  refine AnyL.take 13 (v := ?_) rfl (by kernel_rfl) (by kernel_rfl) (by kernel_rfl) (by kernel_rfl) (fun _ _ _ h => h) (by assumption) (Or.inl ⟨by rfl, ?_⟩) ?_
  rotate_left
  · (intro w' hSw; (try dsimp only at hSw); go_simp; try (with_reducible rfl))
  try simp only [Act.put, List.setIfInBounds_toArray, List.set_cons_zero, List.set_cons_succ]
  refine AnyL.take 14 (v := ?_) rfl (by kernel_rfl) (by kernel_rfl) (by kernel_rfl) (by kernel_rfl) (fun _ _ _ h => h) (by assumption) (Or.inl ⟨by rfl, ?_⟩) ?_
  rotate_left
  · (intro w' hSw; (try dsimp only at hSw); go_simp; try (with_reducible rfl))
  try simp only [Act.put, List.setIfInBounds_toArray, List.set_cons_zero, List.set_cons_succ]
  refine AnyL.take 15 (v := ?_) rfl (by kernel_rfl) (by kernel_rfl) (by kernel_rfl) (by kernel_rfl) (fun _ _ _ h => h) (by assumption) (Or.inl ⟨by rfl, ?_⟩) ?_
  rotate_left
  · (intro w' hSw; (try dsimp only at hSw); go_simp; try (with_reducible rfl))
  try simp only [Act.put, List.setIfInBounds_toArray, List.set_cons_zero, List.set_cons_succ]
  refine AnyL.take 16 (v := ?_) rfl (by kernel_rfl) (by kernel_rfl) (by kernel_rfl) (by kernel_rfl) (fun _ _ _ h => h) (by assumption) (Or.inl ⟨by rfl, ?_⟩) ?_
  rotate_left
  · (intro w' hSw; (try dsimp only at hSw); go_simp; try (with_reducible rfl))
  try simp only [Act.put, List.setIfInBounds_toArray, List.set_cons_zero, List.set_cons_succ]
  refine AnyL.take 17 (v := ?_) rfl (by kernel_rfl) (by kernel_rfl) (by kernel_rfl) (by kernel_rfl) (fun _ _ _ h => h) (by assumption) (Or.inl ⟨by rfl, ?_⟩) ?_
  rotate_left
  · (intro w' hSw; (try dsimp only at hSw); go_simp; try (with_reducible rfl))
  try simp only [Act.put, List.setIfInBounds_toArray, List.set_cons_zero, List.set_cons_succ]
  refine AnyL.take 18 (v := ?_) rfl (by kernel_rfl) (by kernel_rfl) (by kernel_rfl) (by kernel_rfl) (fun _ _ _ h => h) (by assumption) (Or.inl ⟨by rfl, ?_⟩) ?_
  rotate_left
  · (intro w' hSw; (try dsimp only at hSw); go_simp; try (with_reducible rfl))
  try simp only [Act.put, List.setIfInBounds_toArray, List.set_cons_zero, List.set_cons_succ]
  refine AnyL.take 19 (v := ?_) rfl (by kernel_rfl) (by kernel_rfl) (by kernel_rfl) (by kernel_rfl) (fun _ _ _ h => h) (by assumption) (Or.inl ⟨by rfl, ?_⟩) ?_
  rotate_left
  · (intro w' hSw; (try dsimp only at hSw); go_simp; try (with_reducible rfl))
  try simp only [Act.put, List.setIfInBounds_toArray, List.set_cons_zero, List.set_cons_succ]
  refine AnyL.take 20 (v := ?_) rfl (by kernel_rfl) (by kernel_rfl) (by kernel_rfl) (by kernel_rfl) (fun _ _ _ h => h) (by assumption) (Or.inl ⟨by rfl, ?_⟩) ?_
  rotate_left
  · (intro w' hSw; (try dsimp only at hSw); go_simp; try (with_reducible rfl))
  try simp only [Act.put, List.setIfInBounds_toArray, List.set_cons_zero, List.set_cons_succ]
  refine AnyL.take 21 (v := ?_) rfl (by kernel_rfl) (by kernel_rfl) (by kernel_rfl) (by kernel_rfl) (fun _ _ _ h => h) (by assumption) (Or.inl ⟨by rfl, ?_⟩) ?_
  rotate_left
  · (intro w' hSw; (try dsimp only at hSw); go_simp; try (with_reducible rfl))
  try simp only [Act.put, List.setIfInBounds_toArray, List.set_cons_zero, List.set_cons_succ]
  refine AnyL.one 22 (by kernel_rfl) rfl (fun K hK => ?_)
  go_simp
  refine hK _ _ (fun _ => ⟨cell_alloc c7, cell_alloc c0⟩) (fun hKq => ?_)
  clear hK K hKq
  try simp only [Act.put, List.setIfInBounds_toArray, List.set_cons_zero, List.set_cons_succ]
  refine AnyL.one 23 (by kernel_rfl) rfl (fun K hK => ?_)
  go_simp
  refine hK _ _ (fun h => absurd rfl h) (fun hKq => ?_)
  clear hK K hKq
  try simp only [Act.put, List.setIfInBounds_toArray, List.set_cons_zero, List.set_cons_succ]
  refine AnyL.done (by kernel_rfl) ?_ _
  clear hS0 qx qy hwn c7 c0
  have B6 : Hid (BrushAt (w5.alloc (.cells #[.pointer (some ⟨cb, 0, none⟩), .pointer (some ⟨w.heap.size, 0, none⟩), .pointer (some ⟨w3.heap.size, 0, none⟩), .int .i64 x, .int .i64 y] 99)).drew w5.heap.size cb w.heap.size w3.heap.size x y) := Lib.hid (heap_alloc_drew w5 _)
  have P6 : Hid (Only [] w3 (w5.alloc (.cells #[.pointer (some ⟨cb, 0, none⟩), .pointer (some ⟨w.heap.size, 0, none⟩), .pointer (some ⟨w3.heap.size, 0, none⟩), .int .i64 x, .int .i64 y] 99)).drew) := Lib.hid ((P5.out.alloc _).drew)
  have D6 : Hid ((w5.alloc (.cells #[.pointer (some ⟨cb, 0, none⟩), .pointer (some ⟨w.heap.size, 0, none⟩), .pointer (some ⟨w3.heap.size, 0, none⟩), .int .i64 x, .int .i64 y] 99)).drew.heap[w3.heap.size]? = some (.cells #[.pointer (some ⟨sb, 0, none⟩), .int .i64 1, .int .i64 mqp, .bool false, .bool false, .bool false, .bool false, .bool false, .bool false, .bool false, .bool false, .bool false, .bool false, .bool false, .bool false, .bool false, .bool false, .bool false, .bool false, .slice none 0 0, .slice none 0 0, .slice none 0 0, .slice none 0 0] 94 (0, 0))) := Lib.hid (heap_alloc_lt _ D5.out)
  have hz5 := P5.out.size
  have hO3 := O3.out
  generalize (w5.alloc (.cells #[.pointer (some ⟨cb, 0, none⟩), .pointer (some ⟨w.heap.size, 0, none⟩), .pointer (some ⟨w3.heap.size, 0, none⟩), .int .i64 x, .int .i64 y] 99)).drew = w6 at *
  generalize w5.heap.size = nb at *
  go_wp2_with fail
  refine (HDr.out w6 nb w.heap.size w3.heap.size (by rw [← HX.out, ← HY.out]; exact B6.out) (P6.out.heap A1.out (by simp)) D6.out (by omega) (Nat.le_refl _) (by omega) (O1.out.trans P6.out)).mono ?_
  rintro e w7 ⟨rfl, p0, p1, p2, p3, hd7, h1, ⟨Y', hG, sy⟩, su, sv, hr7, o7⟩
  have O7 := Lib.hid o7
  have H1 := Lib.hid h1
  have D7 : Hid (w7.heap[w3.heap.size]? = some (.cells #[.pointer (some ⟨sb, 0, none⟩), .int .i64 1, .int .i64 mqp, .bool false, .bool false, .bool false, .bool false, .bool false, .bool false, .bool false, .bool false, .bool false, .bool false, .bool false, .bool false, .bool false, .bool false, .bool false, .bool false, p0, p1, p2, p3] 94 (0, 0))) := Lib.hid hd7
  have HG := Lib.hid hG
  have SY := Lib.hid sy
  have SU := Lib.hid su
  have SV := Lib.hid sv
  have R7 := Lib.hid hr7
  have hc7 := o7.heap ((O1.out.trans P6.out).heap HC.out.st (by simp)) (by simp; omega)
  have hs7 := o7.heap ((O1.out.trans P6.out).heap HS.out (by simp)) (by simp; omega)
  have ha7 := o7.heap (P6.out.heap A1.out (by simp)) (by simp; omega)
  have c8 : w7.cell? ⟨cb, 8, none⟩ = some (.pointer (some ⟨sb, 0, none⟩)) := by rw [cells_of hc7]; rfl
  have d2 : w7.cell? ⟨w3.heap.size, 2, none⟩ = some (.int .i64 mqp) := by rw [cells_of D7.out]; rfl
  have k33 : w7.cell? ⟨sb, 33, none⟩ = some (.int .i64 qp) := by rw [cells_of hs7, List.getElem?_toArray, HSl.out]
  have z33 := free_of hs7 33
  have S7 := Lib.hid hs7
  have C7 := Lib.hid hc7
  have A7 := Lib.hid ha7
  clear hd7 h1 hG sy su sv hr7 o7 hc7 hs7 ha7 HSl
  go_wp2_with fail
  refine wp_region_L (by kernel_rfl) (fun w' : World => w'.cell? ⟨cb, 8, none⟩ = some (.pointer (some ⟨sb, 0, none⟩)) ∧ w'.cell? ⟨w3.heap.size, 2, none⟩ = some (.int .i64 mqp)) 8 ?_
  have hS0 : (fun w' : World => w'.cell? ⟨cb, 8, none⟩ = some (.pointer (some ⟨sb, 0, none⟩)) ∧ w'.cell? ⟨w3.heap.size, 2, none⟩ = some (.int .i64 mqp)) w7.drew := ⟨c8, d2⟩
  refine AnyL.take 0 (v := ?_) rfl (by kernel_rfl) (by kernel_rfl) (by kernel_rfl) (by kernel_rfl) (fun _ _ _ h => h) (by assumption) (Or.inl ⟨by rfl, ?_⟩) ?_
  rotate_left
  · (intro w' hSw; (try dsimp only at hSw); go_simp; try (with_reducible rfl))
  try simp only [Act.put, List.setIfInBounds_toArray, List.set_cons_zero, List.set_cons_succ]
  refine AnyL.take 1 (v := ?_) rfl (by kernel_rfl) (by kernel_rfl) (by kernel_rfl) (by kernel_rfl) (fun _ _ _ h => h) (by assumption) (Or.inl ⟨by rfl, ?_⟩) ?_
  rotate_left
  · (intro w' hSw; (try dsimp only at hSw); go_simp; try (with_reducible rfl))
  try simp only [Act.put, List.setIfInBounds_toArray, List.set_cons_zero, List.set_cons_succ]
  refine AnyL.take 2 (v := ?_) rfl (by kernel_rfl) (by kernel_rfl) (by kernel_rfl) (by kernel_rfl) (fun _ _ _ h => h) (by assumption) (Or.inl ⟨by rfl, ?_⟩) ?_
  rotate_left
  · (intro w' hSw; (try dsimp only at hSw); go_simp; try (with_reducible rfl))
  try simp only [Act.put, List.setIfInBounds_toArray, List.set_cons_zero, List.set_cons_succ]
  refine AnyL.take 3 (v := ?_) rfl (by kernel_rfl) (by kernel_rfl) (by kernel_rfl) (by kernel_rfl) (fun _ _ _ h => h) (by assumption) (Or.inl ⟨by rfl, ?_⟩) ?_
  rotate_left
  · (intro w' hSw; (try dsimp only at hSw); go_simp; try (with_reducible rfl))
  try simp only [Act.put, List.setIfInBounds_toArray, List.set_cons_zero, List.set_cons_succ]
  refine AnyL.take 4 (v := ?_) rfl (by kernel_rfl) (by kernel_rfl) (by kernel_rfl) (by kernel_rfl) (fun _ _ _ h => h) (by assumption) (Or.inl ⟨by rfl, ?_⟩) ?_
  rotate_left
  · (intro w' hSw; (try dsimp only at hSw); go_simp; try (with_reducible rfl))
  try simp only [Act.put, List.setIfInBounds_toArray, List.set_cons_zero, List.set_cons_succ]
  refine AnyL.take 5 (v := ?_) rfl (by kernel_rfl) (by kernel_rfl) (by kernel_rfl) (by kernel_rfl) (fun _ _ _ h => h) (by assumption) (Or.inl ⟨by rfl, ?_⟩) ?_
  rotate_left
  · (intro w' hSw; (try dsimp only at hSw); go_simp; try (with_reducible rfl))
  try simp only [Act.put, List.setIfInBounds_toArray, List.set_cons_zero, List.set_cons_succ]
  refine AnyL.take 6 (v := ?_) rfl (by kernel_rfl) (by kernel_rfl) (by kernel_rfl) (by kernel_rfl) (fun _ _ _ h => h) (by assumption) (Or.inl ⟨by rfl, ?_⟩) ?_
  rotate_left
  · (intro w' hSw; (try dsimp only at hSw); go_simp; try (with_reducible rfl))
  try simp only [Act.put, List.setIfInBounds_toArray, List.set_cons_zero, List.set_cons_succ]
  refine AnyL.take 7 (v := ?_) rfl (by kernel_rfl) (by kernel_rfl) (by kernel_rfl) (by kernel_rfl) (fun _ _ _ h => h) (by assumption) (Or.inl ⟨by rfl, ?_⟩) ?_
  rotate_left
  · (intro w' hSw; (try dsimp only at hSw); go_simp; try (with_reducible rfl))
  try simp only [Act.put, List.setIfInBounds_toArray, List.set_cons_zero, List.set_cons_succ]
  refine AnyL.one 8 (by kernel_rfl) rfl (fun K hK => ?_)
  go_simp
  refine hK _ _ (fun h => absurd rfl h) (fun hKq => ?_)
  clear hK K hKq
  try simp only [Act.put, List.setIfInBounds_toArray, List.set_cons_zero, List.set_cons_succ]
  refine AnyL.done (by kernel_rfl) ?_ _
  clear hS0
  have S8 : Hid ((w7.setCell ⟨sb, 33, none⟩ (.int .i64 mqp)).drew.heap[sb]? = some (.cells (Hl ++ Rl ++ ([.int .i64 mqp] : List Value)).toArray 89 (0, 0))) := Lib.hid (by have := heap_set_same (i := 33) (.int .i64 mqp) S7.out; rw [set33 Hl Rl _ _ H21.out H12.out] at this; exact this)
  have O8 : Hid (Only [sb] w7 (w7.setCell ⟨sb, 33, none⟩ (.int .i64 mqp)).drew) := Lib.hid (((Only.refl [sb] w7).setCell (p := ⟨sb, 33, none⟩) (.inl (by simp)) _).drew)
  generalize (w7.setCell ⟨sb, 33, none⟩ (.int .i64 mqp)).drew = w8 at *
  have D8 := Lib.hid (O8.out.heap D7.out (by simp; omega))
  have A8 := Lib.hid (O8.out.heap A7.out (by simp; omega))
  have e0 : w8.cell? ⟨w.heap.size, 0, none⟩ = some (.int .i64 1) := by rw [cells_of A8.out, List.getElem?_toArray]; exact HM0.out
  have D7v := D7
  clear c8 d2 k33 z33 D7 A7
  have D9 := D8
  have A9 := A8
  have S9 := S8
  have O9 : Hid (Only [sb, w3.heap.size] w7 w8) := Lib.hid (O8.out.mono (by simp))
  clear O8 A8 S8 D8
  go_wp2
  clear e0
  generalize w8 = w9 at *
  go_loop [106] (fun q => ∃ k : Nat, k ≤ 16 ∧ q = .int .i64 k) (fun q => 16 - (intOf q).toNat)
  case atStart => exact ⟨0, Nat.zero_le _, rfl⟩
  case round =>
    obtain ⟨k, hk, rfl⟩ := hrel
    by_cases hlt : k < 16
    · have hr : w9.rangeAt w.heap.size (50 + k * 16) z16 := fun j v hj => by
        have hl : j < 16 := by have := (List.getElem?_eq_some_iff.1 hj).1; simpa [z16] using this
        rw [z16_at j hl] at hj
        rw [cells_of A9.out, List.getElem?_toArray, show 50 + k * 16 + j = 50 + (k * 16 + j) by omega, HMc.out _ (by omega), ← hj]
      have hset : w9.setCell ⟨w3.heap.size, 3 + k, none⟩ (.bool false) = w9 := setCell_same D9.out (show (elemD sb 1 mqp [p0, p1, p2, p3]).toArray[3 + k]? = _ by rw [List.getElem?_toArray]; exact elemD_at sb 1 mqp [p0, p1, p2, p3] k hlt)
      have he : w9.cell? ⟨w3.heap.size, 3 + k, none⟩ = some (.bool false) := by rw [cells_of D9.out]; exact (show (elemD sb 1 mqp [p0, p1, p2, p3]).toArray[3 + k]? = _ by rw [List.getElem?_toArray]; exact elemD_at sb 1 mqp [p0, p1, p2, p3] k hlt)
      have hz := free_of D9.out (3 + k)
      have heq : ∀ w, (Op.equalIn 10000 36 (.agg z16.toArray) (.agg #[.int .i64 0, .int .i64 0, .int .i64 0, .int .i64 0, .int .i64 0, .int .i64 0, .int .i64 0, .int .i64 0, .int .i64 0, .int .i64 0, .int .i64 0, .int .i64 0, .int .i64 0, .int .i64 0, .int .i64 0, .int .i64 0])).run Tryz.prog w = .ok true w := fun _ => by kernel_rfl
      have hi16 : (Tryz.prog.info? 36).map (·.size) = some z16.length := by kernel_rfl
      have HR16 := Lib.hid hr
      have HI16 := Lib.hid hi16
      clear hr hi16
      go_wp2_with (with_reducible refine wpList_load_mid rfl _ _ rfl w.heap.size (50 + k * 16) rfl z16 _ HR16.out Tryz.underlying36 rfl HI16.out ?_)
      go_round
      case rel => exact ⟨k + 1, by omega, by go_num⟩
      case measure => simp [intOf] <;> omega
    · have O67 := Lib.hid (O1.out.trans P6.out)
      have hc9 := O9.out.heap C7.out (by simp; omega)
      have c7 : w9.cell? ⟨cb, 7, none⟩ = some (.slice ao n c) := by rw [cells_of hc9]; rfl
      have z7 := free_of hc9 7
      have C9 := Lib.hid hc9
      have hsz6 := O67.out.size
      have hsz7 := O7.out.size
      have hsz9 := O9.out.size
      have hri : w9.rangeAt w3.heap.size 0 [.pointer (some ⟨sb, 0, none⟩), .int .i64 1, .int .i64 mqp, .bool false, .bool false, .bool false, .bool false, .bool false, .bool false, .bool false, .bool false, .bool false, .bool false, .bool false, .bool false, .bool false, .bool false, .bool false, .bool false, p0, p1, p2, p3] := fun j v hj => by
        rw [cells_of D9.out, Nat.zero_add, List.getElem?_toArray]
        exact hj
      have hi94 : (Tryz.prog.info? 94).map (·.size) = some ([.pointer (some ⟨sb, 0, none⟩), .int .i64 1, .int .i64 mqp, .bool false, .bool false, .bool false, .bool false, .bool false, .bool false, .bool false, .bool false, .bool false, .bool false, .bool false, .bool false, .bool false, .bool false, .bool false, .bool false, p0, p1, p2, p3] : List Value).length := by kernel_rfl
      have hu94 := Tryz.underlying94
      have ow : w9.ownsRow B 94 23 (.slice ao n c) n D := ownsRow_of_block HO.out fun g hg => by
        obtain ⟨gc, hgc⟩ := ownsRow_block HO.out hg
        have hgl := lt_of_block hgc
        have n1 := block_ne hgc HC.out.ys.choose_spec (by decide)
        have n2 := block_ne hgc HC.out.us.choose_spec (by decide)
        have n3 := block_ne hgc HC.out.vs.choose_spec (by decide)
        have n4 := block_ne hgc HS.out (by decide)
        rw [O9.out.block g (by omega) (by simp; omega), O7.out.block g (by omega) (by simp; omega), O67.out.block g hgl (by simp)]
      have OW := Lib.hid ow
      obtain ⟨i2, hi2, hz2, hs2, hb2⟩ := info_parts eltD.hi
      have Hi2 := Lib.hid hi2
      have Hz2 := Lib.hid hz2
      have Hs2 := Lib.hid hs2
      have Hb2 := Lib.hid hb2
      have h1c : ∀ u ∈ ([.pointer (some ⟨sb, 0, none⟩), .int .i64 1, .int .i64 mqp, .bool false, .bool false, .bool false, .bool false, .bool false, .bool false, .bool false, .bool false, .bool false, .bool false, .bool false, .bool false, .bool false, .bool false, .bool false, .bool false, p0, p1, p2, p3] : List Value), u.oneCell' = true := by
        have q0 := H1.out p0 (by simp)
        have q1 := H1.out p1 (by simp)
        have q2 := H1.out p2 (by simp)
        have q3 := H1.out p3 (by simp)
        intro u hu
        simp only [List.mem_cons, List.not_mem_nil, or_false] at hu
        rcases hu with rfl | rfl | rfl | rfl | rfl | rfl | rfl | rfl | rfl | rfl | rfl | rfl | rfl | rfl | rfl | rfl | rfl | rfl | rfl | rfl | rfl | rfl | rfl <;> first | rfl | assumption
      have H1c := Lib.hid h1c
      have hfill : Instr.fill (fun i => some (i * 23, 23)) ((Array.range (1 * 23)).map ((Value.agg #[.pointer none, .int .i64 0, .int .i64 0, .bool false, .bool false, .bool false, .bool false, .bool false, .bool false, .bool false, .bool false, .bool false, .bool false, .bool false, .bool false, .bool false, .bool false, .bool false, .bool false, .slice none 0 0, .slice none 0 0, .slice none 0 0, .slice none 0 0]).cells[· % 23]!)) [(0, .agg #[.pointer (some ⟨sb, 0, none⟩), .int .i64 1, .int .i64 mqp, .bool false, .bool false, .bool false, .bool false, .bool false, .bool false, .bool false, .bool false, .bool false, .bool false, .bool false, .bool false, .bool false, .bool false, .bool false, .bool false, p0, p1, p2, p3])] = some #[.pointer (some ⟨sb, 0, none⟩), .int .i64 1, .int .i64 mqp, .bool false, .bool false, .bool false, .bool false, .bool false, .bool false, .bool false, .bool false, .bool false, .bool false, .bool false, .bool false, .bool false, .bool false, .bool false, .bool false, p0, p1, p2, p3] := by kernel_rfl
      have HF := Lib.hid hfill
      clear hc9 ow hi2 hz2 hs2 hb2 h1c hfill
      go_wp2_with fail
      refine wp_region_L (by kernel_rfl) (fun w' : World => w'.cell? ⟨cb, 7, none⟩ = some (.slice ao n c) ∧ w'.rangeAt w3.heap.size 0 [.pointer (some ⟨sb, 0, none⟩), .int .i64 1, .int .i64 mqp, .bool false, .bool false, .bool false, .bool false, .bool false, .bool false, .bool false, .bool false, .bool false, .bool false, .bool false, .bool false, .bool false, .bool false, .bool false, .bool false, p0, p1, p2, p3]) 10 ?_
      have hS0 : (fun w' : World => w'.cell? ⟨cb, 7, none⟩ = some (.slice ao n c) ∧ w'.rangeAt w3.heap.size 0 [.pointer (some ⟨sb, 0, none⟩), .int .i64 1, .int .i64 mqp, .bool false, .bool false, .bool false, .bool false, .bool false, .bool false, .bool false, .bool false, .bool false, .bool false, .bool false, .bool false, .bool false, .bool false, .bool false, .bool false, p0, p1, p2, p3]) w9.drew := ⟨c7, hri⟩
      refine AnyL.take 0 (v := ?_) rfl (by kernel_rfl) (by kernel_rfl) (by kernel_rfl) (by kernel_rfl) (fun _ _ _ h => h) (by assumption) (Or.inl ⟨by rfl, ?_⟩) ?_
      rotate_left
      · (intro w' hSw; (try dsimp only at hSw); go_simp; try (with_reducible rfl))
      try simp only [Act.put, List.setIfInBounds_toArray, List.set_cons_zero, List.set_cons_succ]
      refine AnyL.take 1 (v := ?_) rfl (by kernel_rfl) (by kernel_rfl) (by kernel_rfl) (by kernel_rfl) (fun _ _ _ h => h) (by assumption) (Or.inl ⟨by rfl, ?_⟩) ?_
      rotate_left
      · (intro w' hSw; (try dsimp only at hSw); go_simp; try (with_reducible rfl))
      try simp only [Act.put, List.setIfInBounds_toArray, List.set_cons_zero, List.set_cons_succ]
      refine AnyL.take 2 (v := ?_) rfl (by kernel_rfl) (by kernel_rfl) (by kernel_rfl) (by kernel_rfl) (fun _ _ _ h => h) (by assumption) (Or.inl ⟨by rfl, ?_⟩) ?_
      rotate_left
      · (intro w' hSw; (try dsimp only at hSw); go_simp; try (with_reducible rfl))
      try simp only [Act.put, List.setIfInBounds_toArray, List.set_cons_zero, List.set_cons_succ]
      refine AnyL.take 3 (v := ?_) rfl (by kernel_rfl) (by kernel_rfl) (by kernel_rfl) (by kernel_rfl) (fun _ _ _ h => h) (by assumption) (Or.inl ⟨by rfl, ?_⟩) ?_
      rotate_left
      · (intro w' hSw; (try dsimp only at hSw); go_simp; try (with_reducible rfl))
      try simp only [Act.put, List.setIfInBounds_toArray, List.set_cons_zero, List.set_cons_succ]
      refine AnyL.take 4 (v := ?_) rfl (by kernel_rfl) (by kernel_rfl) (by kernel_rfl) (by kernel_rfl) (fun _ _ _ h => h) (by assumption) (Or.inl ⟨by rfl, ?_⟩) ?_
      rotate_left
      · (intro w' hSw; (try dsimp only at hSw); go_simp; try (with_reducible rfl))
      try simp only [Act.put, List.setIfInBounds_toArray, List.set_cons_zero, List.set_cons_succ]
      refine AnyL.take 5 rfl (by kernel_rfl) (by kernel_rfl) (by kernel_rfl) (by kernel_rfl) (fun _ _ _ h => h) (by assumption) (yieldsIf_load_mid (by rfl) _ _ rfl w3.heap.size 0 rfl [.pointer (some ⟨sb, 0, none⟩), .int .i64 1, .int .i64 mqp, .bool false, .bool false, .bool false, .bool false, .bool false, .bool false, .bool false, .bool false, .bool false, .bool false, .bool false, .bool false, .bool false, .bool false, .bool false, .bool false, p0, p1, p2, p3] _ (fun w' h => h.2) hu94 rfl hi94) ?_
      try simp only [Act.put, List.setIfInBounds_toArray, List.set_cons_zero, List.set_cons_succ]
      refine AnyL.one 6 (by kernel_rfl) rfl (fun K hK => ?_)
      rw [if_pos (by rfl)]
      refine wp_build1 _ _ rfl eltD (.agg #[.pointer (some ⟨sb, 0, none⟩), .int .i64 1, .int .i64 mqp, .bool false, .bool false, .bool false, .bool false, .bool false, .bool false, .bool false, .bool false, .bool false, .bool false, .bool false, .bool false, .bool false, .bool false, .bool false, .bool false, p0, p1, p2, p3]) rfl #[.pointer (some ⟨sb, 0, none⟩), .int .i64 1, .int .i64 mqp, .bool false, .bool false, .bool false, .bool false, .bool false, .bool false, .bool false, .bool false, .bool false, .bool false, .bool false, .bool false, .bool false, .bool false, .bool false, .bool false, p0, p1, p2, p3] (by decide) HF.out ?_
      have OWb := Lib.hid (ownsRow_of_block (w' := w9.drew.alloc (.cells #[.pointer (some ⟨sb, 0, none⟩), .int .i64 1, .int .i64 mqp, .bool false, .bool false, .bool false, .bool false, .bool false, .bool false, .bool false, .bool false, .bool false, .bool false, .bool false, .bool false, .bool false, .bool false, .bool false, .bool false, p0, p1, p2, p3] 94)) OW.out (fun g hg => by obtain ⟨gc, hgc⟩ := ownsRow_block OW.out hg; exact (heap_alloc_lt _ hgc).trans hgc.symm))
      have NB := Lib.hid (heap_alloc_at w9.drew (.cells #[.pointer (some ⟨sb, 0, none⟩), .int .i64 1, .int .i64 mqp, .bool false, .bool false, .bool false, .bool false, .bool false, .bool false, .bool false, .bool false, .bool false, .bool false, .bool false, .bool false, .bool false, .bool false, .bool false, .bool false, p0, p1, p2, p3] 94))
      have OB := Lib.hid ((Only.refl [] w9).drew.alloc (.cells #[.pointer (some ⟨sb, 0, none⟩), .int .i64 1, .int .i64 mqp, .bool false, .bool false, .bool false, .bool false, .bool false, .bool false, .bool false, .bool false, .bool false, .bool false, .bool false, .bool false, .bool false, .bool false, .bool false, .bool false, p0, p1, p2, p3] 94))
      have c7b : (w9.drew.alloc (.cells #[.pointer (some ⟨sb, 0, none⟩), .int .i64 1, .int .i64 mqp, .bool false, .bool false, .bool false, .bool false, .bool false, .bool false, .bool false, .bool false, .bool false, .bool false, .bool false, .bool false, .bool false, .bool false, .bool false, .bool false, p0, p1, p2, p3] 94)).cell? ⟨cb, 7, none⟩ = some (.slice ao n c) := cell_alloc c7
      have hrib : (w9.drew.alloc (.cells #[.pointer (some ⟨sb, 0, none⟩), .int .i64 1, .int .i64 mqp, .bool false, .bool false, .bool false, .bool false, .bool false, .bool false, .bool false, .bool false, .bool false, .bool false, .bool false, .bool false, .bool false, .bool false, .bool false, .bool false, p0, p1, p2, p3] 94)).rangeAt w3.heap.size 0 [.pointer (some ⟨sb, 0, none⟩), .int .i64 1, .int .i64 mqp, .bool false, .bool false, .bool false, .bool false, .bool false, .bool false, .bool false, .bool false, .bool false, .bool false, .bool false, .bool false, .bool false, .bool false, .bool false, .bool false, p0, p1, p2, p3] := range_alloc hri
      have hdz : w9.drew.heap.size = w9.heap.size := rfl
      refine hK _ _ (fun _ => ⟨c7b, hrib⟩) (fun hKq => ?_)
      clear hK K hKq
      try simp only [Act.put, List.setIfInBounds_toArray, List.set_cons_zero, List.set_cons_succ]
      refine AnyL.one 7 (by kernel_rfl) rfl (fun K hK => ?_)
      refine step_append_lies _ rfl _ _ _ rfl B 94 i2 _ 23 136 Tryz.underlying82 Hi2.out Hz2.out Hs2.out Hb2.out rfl (by omega) (.slice ao n c) n _ rfl OWb.out
        ⟨w9.drew.heap.size, 0, none⟩ 1 1 [.pointer (some ⟨sb, 0, none⟩), .int .i64 1, .int .i64 mqp, .bool false, .bool false, .bool false, .bool false, .bool false, .bool false, .bool false, .bool false, .bool false, .bool false, .bool false, .bool false, .bool false, .bool false, .bool false, .bool false, p0, p1, p2, p3] rfl rfl (World.news_of_block NB.out) H1c.out (by omega) (by unfold maxLen; omega) (by omega) (by have := OB.out.size; omega) _ rfl ?_
      intro gg cap2 w11 hown2 hgrow hat hlt2
      have OWf := Lib.hid hown2
      have og := (Only.refl (Value.slice ao n c).ownBlock.toList (w9.drew.alloc (.cells #[.pointer (some ⟨sb, 0, none⟩), .int .i64 1, .int .i64 mqp, .bool false, .bool false, .bool false, .bool false, .bool false, .bool false, .bool false, .bool false, .bool false, .bool false, .bool false, .bool false, .bool false, .bool false, .bool false, .bool false, p0, p1, p2, p3] 94))).grown hgrow (fun i hi => .inl (by simp [hi]))
      have OG : Hid (Only (Value.slice ao n c).ownBlock.toList w9 w11) := Lib.hid (((OB.out.mono (by simp)).trans og))
      have hne : ∀ k ∈ (Value.slice ao n c).ownBlock.toList, k ≠ cb ∧ k ≠ sb ∧ k ≠ yb ∧ k ≠ ub ∧ k ≠ vb ∧ k < w.heap.size ∧ B ≤ k := by
        intro k hk
        have hg : (Value.slice ao n c).ownBlock = some k := by simpa using hk
        obtain ⟨gc, hgc⟩ := ownsRow_block HO.out hg
        exact ⟨block_ne hgc HC.out.st (by decide), block_ne hgc HS.out (by decide), block_ne hgc HC.out.ys.choose_spec (by decide), block_ne hgc HC.out.us.choose_spec (by decide), block_ne hgc HC.out.vs.choose_spec (by decide), lt_of_block hgc, own_geN HO.out k hg⟩
      have HNe := Lib.hid hne
      have c7c : w11.cell? ⟨cb, 7, none⟩ = some (.slice ao n c) := OG.out.cell c7 (fun h => (hne cb h).1 rfl)
      have hric := range_only hri OG.out (fun h => by have := (hne _ h).2.2.2.2.2.1; omega)
      have C11 := Lib.hid (OG.out.heap C9.out (fun h => (hne cb h).1 rfl))
      have z7c := free_of C11.out 7
      have S11 := Lib.hid (OG.out.heap S9.out (fun h => (hne sb h).2.1 rfl))
      clear hown2 hgrow hat og hne c7b hrib hS0 c7 hri z7
      refine hK _ _ (fun _ => ⟨c7c, hric⟩) (fun hKq => ?_)
      clear hK K hKq
      try simp only [Act.put, List.setIfInBounds_toArray, List.set_cons_zero, List.set_cons_succ]
      refine AnyL.one 8 (by kernel_rfl) rfl (fun K hK => ?_)
      go_simp
      refine hK _ _ (fun _ => ⟨c7c, hric⟩) (fun hKq => ?_)
      clear hK K hKq
      try simp only [Act.put, List.setIfInBounds_toArray, List.set_cons_zero, List.set_cons_succ]
      refine AnyL.one 9 (by kernel_rfl) rfl (fun K hK => ?_)
      go_simp
      refine hK _ _ (fun _ => ⟨c7c, hric⟩) (fun hKq => ?_)
      clear hK K hKq
      try simp only [Act.put, List.setIfInBounds_toArray, List.set_cons_zero, List.set_cons_succ]
      refine AnyL.one 10 (by kernel_rfl) rfl (fun K hK => ?_)
      go_simp
      refine hK _ _ (fun h => absurd rfl h) (fun hKq => ?_)
      clear hK K hKq
      try simp only [Act.put, List.setIfInBounds_toArray, List.set_cons_zero, List.set_cons_succ]
      refine AnyL.done (by kernel_rfl) ?_ _
      clear hric
      go_wp2
      go_ret
      have hst := heap_set_same (i := 7) (.slice (some ⟨gg, 0, none⟩) (n + 1) cap2) C11.out
      have OX : Only (cb :: (Value.slice ao n c).ownBlock.toList) w9 (w11.setCell ⟨cb, 7, none⟩ (.slice (some ⟨gg, 0, none⟩) (n + 1) cap2)) := (OG.out.mono (by simp; exact fun a h => .inr h)).setCell (p := ⟨cb, 7, none⟩) (.inl (by simp)) _
      have nY : yb ∉ cb :: (Value.slice ao n c).ownBlock.toList := fun h => by rcases List.mem_cons.1 h with h | h; exact hcy h.symm; exact (HNe.out _ h).2.2.1 rfl
      have nU : ub ∉ cb :: (Value.slice ao n c).ownBlock.toList := fun h => by rcases List.mem_cons.1 h with h | h; exact hcu h.symm; exact (HNe.out _ h).2.2.2.1 rfl
      have nV : vb ∉ cb :: (Value.slice ao n c).ownBlock.toList := fun h => by rcases List.mem_cons.1 h with h | h; exact hcv h.symm; exact (HNe.out _ h).2.2.2.2.1 rfl
      have nS : sb ∉ cb :: (Value.slice ao n c).ownBlock.toList := fun h => by rcases List.mem_cons.1 h with h | h; exact hcs h.symm; exact (HNe.out _ h).2.1 rfl
      have sy9 := (SY.out.only O9.out (by simp; omega)).only OX nY
      have su9 := (SU.out.only O9.out (by simp; omega)).only OX nU
      have sv9 := (SV.out.only O9.out (by simp; omega)).only OX nV
      have oF : Only [yb, ub, vb, sb, cb] w w9 := ((O67.out.mono (by simp)).trans' O7.out (fun i hi => by simp only [List.mem_cons, List.not_mem_nil, or_false] at hi ⊢; omega)).trans' O9.out (fun i hi => by simp only [List.mem_cons, List.not_mem_nil, or_false] at hi ⊢; omega)
      have bl : Only ([yb, ub, vb, sb, cb] ++ (Value.slice ao n c).ownBlock.toList) w (w11.setCell ⟨cb, 7, none⟩ (.slice (some ⟨gg, 0, none⟩) (n + 1) cap2)) :=
        (oF.mono (fun i hi => List.mem_append_left _ hi)).trans (OX.mono (fun i hi => by
          rcases List.mem_cons.1 hi with h | h
          · rw [h]; exact List.mem_append_left _ (by simp)
          · exact List.mem_append_right _ h))
      refine ⟨rfl, p0, p1, p2, p3, some ⟨gg, 0, none⟩, cap2, Y', HG.out, ⟨?_, sy9.sm, su9.sm, sv9.sm, sy9.ok, su9.ok, sv9.ok, HC.out.yu, HC.out.yv, HC.out.uv⟩, ?_, ?_, ?_, bl⟩
      · rw [HlY.out Y' HG.out, HlU.out, HlV.out]; exact hst
      · exact ownsRow_of_block OWf.out (fun g hg => by
          obtain ⟨gc, hgc⟩ := ownsRow_block OWf.out hg
          exact (heap_set_other _ hgc (block_ne hgc C11.out (by decide))).trans hgc.symm)
      · exact heap_set_other _ S11.out hcs.symm
      · refine HSt.out _ _ _ R7.out fun k cs hk => ?_
        have hk9 := O9.out.heap hk (by simp; exact ⟨block_ne hk S7.out (by decide), block_ne hk D7v.out (by decide)⟩)
        exact OX.heap hk9 (fun h => by
          rcases List.mem_cons.1 h with h | h
          · exact block_ne hk9 C9.out (by decide) h
          · have hg : (Value.slice ao n c).ownBlock = some k := by simpa using h
            obtain ⟨gc, hgc⟩ := ownsRow_block OW.out hg
            exact absurd rfl (block_ne hk9 hgc (by decide)))
end Go.Proofs.YtcmehedjdfopdaaGreat
