/-
  The walk over a macroblock of a slice of type I: kind 0, Qp told. The walk over a macroblock of a slice of type I: kind 0, Qp not told.
-/
import Derived.Test.YtcppbdlmcbjmeaaGreatDoorJ17
namespace Go.Proofs.YtcppbdlmcbjmeaaGreatDoor
open Go.RowKit
set_option maxRecDepth 100000 in
set_option maxHeartbeats 6400000 in
theorem wk_run2_0t {c : Cod} {F0 F : List Nat} {w0 w : World} {kb sb mb n f wide : Nat} {S X : Nat → Value} {ds : List DoneP} {r : List Ask} {x y : Nat → Int} {p d inc : Int} {L G : Nat} (hc : c.Ok)
    (h : Scene c F0 w0 w kb sb mb S X n (donesA ds) F (.elem 1 (countN withinB ds f wide n) 0 2 :: (modesAsk (fun b => modeAsk (usualB ds f wide n (fun i => y (2 + i)) b) (y (2 + b))) 16 ++ (.elem 5 0 (y 19) 3 :: (restAsk 0 L G d inc y ++ r)))))
    (h0 : S 0 = .int .i64 f) (h2 : S 2 = .int .i64 2) (h21 : S 21 = .int .i64 wide) (bf : f ≤ 1000000) (bw : 1 ≤ wide ∧ wide ≤ 1000000) (bn : n ≤ 1000000) (hds : ds.length = n) (hg : MbGiven c.wr X x y) (hy0 : y 0 = 0)
    (h22 : S 22 = .int .i64 p) (hL : L ≤ 15) (hH : G ≤ 2) (hy48 : y 48 = L + 16 * G) (hinc : inc = flagN (decide (0 < leftC ds (leftN f wide n)))) (hdc : ∀ d ∈ ds, 0 ≤ d.cbp ∧ d.cbp ≤ 47) (hp : 0 ≤ p ∧ p ≤ 51) (hd : -26 ≤ d ∧ d ≤ 25) (hq : y 49 = (p + d + 52) % 52) (hyq : 0 ≤ y 49 ∧ y 49 ≤ 51)
    (hz : ∀ j, j < 482 → ¬ (j = 0 ∨ (2 ≤ j ∧ j < 18) ∨ j = 19 ∨ restT 0 L G j) → y j = 0)
    (hm : ∀ i, i < 16 → 0 ≤ y (2 + i) ∧ y (2 + i) ≤ 8) (hu : ∀ i, i < 16 → 0 ≤ usualB ds f wide n (fun i => y (2 + i)) i ∧ usualB ds f wide n (fun i => y (2 + i)) i ≤ 8) (hT : 0 < L + 16 * G) :
    Calls Tryz.prog 37 #[.pointer (some ⟨kb, 0, none⟩)] w fun e w' => e = .returned (.tuple #[]) ∧ ∃ (v' : Value) (F' : List Nat), Ran c F0 w0 w' sb mb (upd (upd S 22 (.int .i64 (y 49))) 23 v') (laidY X y) (n + 1) (donesA (ds ++ [dOf y])) F' r (S 23).ownBlock.toList := by
  have mE := hc.mE
  have eE := hc.eE
  have HS := Lib.hid h
  have HC := Lib.hid hc
  have H0 := Lib.hid h0
  have H2 := Lib.hid h2
  have H21 := Lib.hid h21
  have Hb := Lib.hid (And.intro bf (And.intro bw bn))
  have Hds := Lib.hid hds
  have Hg := Lib.hid hg
  have Hy0 := Lib.hid hy0
  have Hz := Lib.hid hz
  have Hp := Lib.hid hp
  have Kh22 := Lib.hid h22
  have KhL := Lib.hid hL
  have KhH := Lib.hid hH
  have Khy48 := Lib.hid hy48
  have Khinc := Lib.hid hinc
  have Khdc := Lib.hid hdc
  have Khd := Lib.hid hd
  have Khq := Lib.hid hq
  have Khyq := Lib.hid hyq
  have Khm := Lib.hid hm
  have Khu := Lib.hid hu
  have KhT := Lib.hid hT
  have k0 := HS.out.k0
  have k2 := HS.out.k2
  have s2 : w.cell? ⟨sb, 2, none⟩ = some (.int .i64 2) := by rw [HS.out.s.cell 2 (by decide), H2.out]
  clear h hc h0 h2 h21 bf bw bn hds hg hy0 hz hp h22 hL hH hy48 hinc hdc hd hq hyq hm hu hT
  go_enter Tryz.func37, Tryz.ntmps37
  go_wp2_with fail
  refine (sx_kinds 2 2 (.inr (.inr ⟨rfl, rfl⟩)) w).mono ?_
  rintro e w1 ⟨rfl, hk1, ho1, hz1⟩
  have hs1 := HS.out.same HC.out ho1
  have hgk : w.heap.size ∉ F := fun hm => by have := HC.out.low F _ _ HS.out.c _ hm; omega
  have hgkb : w.heap.size ≠ kb ∧ w.heap.size ≠ sb ∧ w.heap.size ≠ mb := by
    have := lt_of_block HS.out.k; have := HS.out.s.lt; have := HS.out.m.lt
    omega
  obtain ⟨gk, hgkd⟩ : ∃ gk, gk = w.heap.size := ⟨_, rfl⟩
  rw [← hgkd] at hk1 hgk hgkb ⊢
  have HS1 := Lib.hid hs1
  have HK1 := Lib.hid hk1
  have Hgk := Lib.hid hgk
  have Hgkb := Lib.hid hgkb
  have HO1 := Lib.hid ho1
  have k0 := hs1.k0
  have k2 := hs1.k2
  clear hs1 hk1 hgk hgkb hgkd ho1 hz1 s2
  go_wp2_with fail
  refine (st_count (A := withinB) (HS1.out.st H0.out H21.out Hb.out.1 Hb.out.2.1 Hb.out.2.2) Hds.out (fun args w => run_enter Tryz.func67 (by kernel_rfl) (by kernel_rfl) args w) (fun g o k w hh => run2_is g o k w hh)).mono ?_
  rintro e w2 ⟨rfl, ho2⟩
  have hs2 := HS1.out.same HC.out ho2
  have hk2 := ho2.heap HK1.out (by simp)
  obtain ⟨cn, hcn⟩ : ∃ cn, cn = countN withinB ds f wide n := ⟨_, rfl⟩
  rw [← hcn] at hs2 ⊢
  have HO2 : Hid (Only [] w w2) := Lib.hid (HO1.out.trans ho2)
  have HS2 := Lib.hid hs2
  have HK2 := Lib.hid hk2
  clear hs2 hk2 ho2 HS1 HK1 k0 k2 hcn HO1
  go_wp2_with fail
  have hS8 : (fun w' => w'.cell? ⟨kb, 1, none⟩ = some (.iface c.T c.pv) ∧ w'.cell? ⟨mb, 0, none⟩ = some (.int .i64 (x 0)) ∧ w'.cell? ⟨gk, 2, none⟩ = some (.int .i64 0) ∧ w'.cell? ⟨gk, 3, none⟩ = some (.int .i64 1) ∧ w'.cell? ⟨gk, 4, none⟩ = some (.int .i64 2)) w2.drew := by
    refine ⟨HS2.out.k1, ?_, ?_, ?_, ?_⟩
    · show w2.cell? ⟨mb, 0, none⟩ = _
      rw [HS2.out.m.cell 0 (by decide), Hg.out.cell 0 (by decide)]
    all_goals
      show w2.cell? _ = _
      rw [cells_of HK2.out]
      rfl
  refine wp_region_L (by kernel_rfl) (fun w' => w'.cell? ⟨kb, 1, none⟩ = some (.iface c.T c.pv) ∧ w'.cell? ⟨mb, 0, none⟩ = some (.int .i64 (x 0)) ∧ w'.cell? ⟨gk, 2, none⟩ = some (.int .i64 0) ∧ w'.cell? ⟨gk, 3, none⟩ = some (.int .i64 1) ∧ w'.cell? ⟨gk, 4, none⟩ = some (.int .i64 2)) 23 ?_
  have hS0 : (fun w' => w'.cell? ⟨kb, 1, none⟩ = some (.iface c.T c.pv) ∧ w'.cell? ⟨mb, 0, none⟩ = some (.int .i64 (x 0)) ∧ w'.cell? ⟨gk, 2, none⟩ = some (.int .i64 0) ∧ w'.cell? ⟨gk, 3, none⟩ = some (.int .i64 1) ∧ w'.cell? ⟨gk, 4, none⟩ = some (.int .i64 2)) w2.drew := hS8
  refine AnyL.take 0 (v := ?_) rfl (by kernel_rfl) (by kernel_rfl) (by kernel_rfl) (by kernel_rfl) (fun _ _ _ h => h) (by assumption) (Or.inl ⟨by rfl, ?_⟩) ?_
  rotate_left
  · (intro w' hSw; (try dsimp only at hSw); go_simp; try (with_reducible rfl))
  try simp only [Act.put, List.setIfInBounds_toArray, List.set_cons_zero, List.set_cons_succ]
  refine AnyL.take 1 (v := ?_) rfl (by kernel_rfl) (by kernel_rfl) (by kernel_rfl) (by kernel_rfl) (fun _ _ _ h => h) (by assumption) (Or.inl ⟨by rfl, ?_⟩) ?_
  rotate_left
  · (intro w' hSw; (try dsimp only at hSw); go_simp; try (with_reducible rfl))
  try simp only [Act.put, List.setIfInBounds_toArray, List.set_cons_zero, List.set_cons_succ]
  refine AnyL.take 2 (v := ?_) rfl (by kernel_rfl) (by kernel_rfl) (by kernel_rfl) (by kernel_rfl) (fun _ _ _ h => h) (by assumption) (Or.inl ⟨by rfl, ?_⟩) ?_
  rotate_left
  · (intro w' hSw; (try dsimp only at hSw); go_simp; try (with_reducible rfl))
  try simp only [Act.put, List.setIfInBounds_toArray, List.set_cons_zero, List.set_cons_succ]
  refine AnyL.take 3 (v := ?_) rfl (by kernel_rfl) (by kernel_rfl) (by kernel_rfl) (by kernel_rfl) (fun _ _ _ h => h) (by assumption) (Or.inl ⟨by rfl, ?_⟩) ?_
  rotate_left
  · (intro w' hSw; (try dsimp only at hSw); go_simp; try (with_reducible rfl))
  try simp only [Act.put, List.setIfInBounds_toArray, List.set_cons_zero, List.set_cons_succ]
  refine AnyL.take 4 (v := ?_) rfl (by kernel_rfl) (by kernel_rfl) (by kernel_rfl) (by kernel_rfl) (fun _ _ _ h => h) (by assumption) (Or.inl ⟨by rfl, ?_⟩) ?_
  rotate_left
  · (intro w' hSw; (try dsimp only at hSw); go_simp; try (with_reducible rfl))
  try simp only [Act.put, List.setIfInBounds_toArray, List.set_cons_zero, List.set_cons_succ]
  refine AnyL.take 5 (v := ?_) rfl (by kernel_rfl) (by kernel_rfl) (by kernel_rfl) (by kernel_rfl) (fun _ _ _ h => h) (by assumption) (Or.inl ⟨by rfl, ?_⟩) ?_
  rotate_left
  · (intro w' hSw; (try dsimp only at hSw); go_simp; try (with_reducible rfl))
  try simp only [Act.put, List.setIfInBounds_toArray, List.set_cons_zero, List.set_cons_succ]
  refine AnyL.take 6 (v := ?_) rfl (by kernel_rfl) (by kernel_rfl) (by kernel_rfl) (by kernel_rfl) (fun _ _ _ h => h) (by assumption) (Or.inl ⟨by rfl, ?_⟩) ?_
  rotate_left
  · (intro w' hSw; (try dsimp only at hSw); go_simp; try (with_reducible rfl))
  try simp only [Act.put, List.setIfInBounds_toArray, List.set_cons_zero, List.set_cons_succ]
  refine AnyL.take 7 (v := ?_) rfl (by kernel_rfl) (by kernel_rfl) (by kernel_rfl) (by kernel_rfl) (fun _ _ _ h => h) (by assumption) (Or.inl ⟨by rfl, ?_⟩) ?_
  rotate_left
  · (intro w' hSw; (try dsimp only at hSw); go_simp; try (with_reducible rfl))
  try simp only [Act.put, List.setIfInBounds_toArray, List.set_cons_zero, List.set_cons_succ]
  refine AnyL.take 8 (v := ?_) rfl (by kernel_rfl) (by kernel_rfl) (by kernel_rfl) (by kernel_rfl) (fun _ _ _ h => h) (by assumption) (Or.inl ⟨by rfl, ?_⟩) ?_
  rotate_left
  · (intro w' hSw; (try dsimp only at hSw); go_simp; try (with_reducible rfl))
  try simp only [Act.put, List.setIfInBounds_toArray, List.set_cons_zero, List.set_cons_succ]
  refine AnyL.take 9 (v := ?_) rfl (by kernel_rfl) (by kernel_rfl) (by kernel_rfl) (by kernel_rfl) (fun _ _ _ h => h) (by assumption) (Or.inl ⟨by rfl, ?_⟩) ?_
  rotate_left
  · (intro w' hSw; (try dsimp only at hSw); go_simp; try (with_reducible rfl))
  try simp only [Act.put, List.setIfInBounds_toArray, List.set_cons_zero, List.set_cons_succ]
  refine AnyL.take 10 (v := ?_) rfl (by kernel_rfl) (by kernel_rfl) (by kernel_rfl) (by kernel_rfl) (fun _ _ _ h => h) (by assumption) (Or.inl ⟨by rfl, ?_⟩) ?_
  rotate_left
  · (intro w' hSw; (try dsimp only at hSw); go_simp; try (with_reducible rfl))
  try simp only [Act.put, List.setIfInBounds_toArray, List.set_cons_zero, List.set_cons_succ]
  refine AnyL.take 11 (v := ?_) rfl (by kernel_rfl) (by kernel_rfl) (by kernel_rfl) (by kernel_rfl) (fun _ _ _ h => h) (by assumption) (Or.inl ⟨by rfl, ?_⟩) ?_
  rotate_left
  · (intro w' hSw; (try dsimp only at hSw); go_simp; try (with_reducible rfl))
  try simp only [Act.put, List.setIfInBounds_toArray, List.set_cons_zero, List.set_cons_succ]
  refine AnyL.take 13 (v := ?_) rfl (by kernel_rfl) (by kernel_rfl) (by kernel_rfl) (by kernel_rfl) (fun _ _ _ h => h) (by assumption) (Or.inl ⟨by rfl, ?_⟩) ?_
  rotate_left
  · (intro w' hSw; (try dsimp only at hSw); go_simp; try (with_reducible rfl))
  try simp only [Act.put, List.setIfInBounds_toArray, List.set_cons_zero, List.set_cons_succ]
  refine AnyL.take 14 (v := ?_) rfl (by kernel_rfl) (by kernel_rfl) (by kernel_rfl) (by kernel_rfl) (fun _ _ _ h => h) (by assumption) (Or.inl ⟨by rfl, ?_⟩) ?_
  rotate_left
  · (intro w' hSw; (try dsimp only at hSw); go_simp; try (with_reducible rfl))
  try simp only [Act.put, List.setIfInBounds_toArray, List.set_cons_zero, List.set_cons_succ]
  refine AnyL.take 15 (v := ?_) rfl (by kernel_rfl) (by kernel_rfl) (by kernel_rfl) (by kernel_rfl) (fun _ _ _ h => h) (by assumption) (Or.inl ⟨by rfl, ?_⟩) ?_
  rotate_left
  · (intro w' hSw; (try dsimp only at hSw); go_simp; try (with_reducible rfl))
  try simp only [Act.put, List.setIfInBounds_toArray, List.set_cons_zero, List.set_cons_succ]
  refine AnyL.take 16 (v := ?_) rfl (by kernel_rfl) (by kernel_rfl) (by kernel_rfl) (by kernel_rfl) (fun _ _ _ h => h) (by assumption) (Or.inl ⟨by rfl, ?_⟩) ?_
  rotate_left
  · (intro w' hSw; (try dsimp only at hSw); go_simp; try (with_reducible rfl))
  try simp only [Act.put, List.setIfInBounds_toArray, List.set_cons_zero, List.set_cons_succ]
  refine AnyL.take 17 (v := ?_) rfl (by kernel_rfl) (by kernel_rfl) (by kernel_rfl) (by kernel_rfl) (fun _ _ _ h => h) (by assumption) (Or.inl ⟨by rfl, ?_⟩) ?_
  rotate_left
  · (intro w' hSw; (try dsimp only at hSw); go_simp; try (with_reducible rfl))
  try simp only [Act.put, List.setIfInBounds_toArray, List.set_cons_zero, List.set_cons_succ]
  refine AnyL.one 12 (by kernel_rfl) rfl (fun K hK => ?_)
  go_simp
  refine (sx_index (x 0) gk 2 3 3 [0, 1, 2] w2.drew rfl (by decide) (by
    intro i hi
    rcases (show i = 0 ∨ i = 1 ∨ i = 2 by omega) with rfl | rfl | rfl
    · exact hS0.2.2.1
    · exact hS0.2.2.2.1
    · exact hS0.2.2.2.2)).mono ?_
  rintro e w3 ⟨rfl, rfl⟩
  refine hK _ _ (fun _ => hS0) (fun hKq => ?_)
  clear hK K hKq
  try simp only [Act.put, List.setIfInBounds_toArray, List.set_cons_zero, List.set_cons_succ]
  refine AnyL.one 18 (by kernel_rfl) rfl (fun K hK => ?_)
  go_simp
  refine ((HS2.out.drew HC.out).here.elem HC.out (idxL (x 0) [0, 1, 2] 0 : Nat) (fun hwr => by
    rw [Hg.out.told hwr 0 (by decide), Hy0.out]
    rfl)).mono ?_
  rintro e w3 ⟨rfl, F1, g0⟩
  have hk3 : w3.heap[gk]? = some (.cells (kAll.map (Value.int .i64)).toArray 3 (0, 0)) := g0.o.heap (show w2.drew.heap[gk]? = _ from HK2.out) (by
    simp only [List.mem_cons, not_or]
    exact ⟨Hgkb.out.2.1, Hgkb.out.2.2, Hgk.out⟩)
  have g1 := (HS2.out.drew HC.out).trans g0
  clear g0
  have hS1 : (fun w' => w'.cell? ⟨kb, 1, none⟩ = some (.iface c.T c.pv) ∧ w'.cell? ⟨mb, 0, none⟩ = some (.int .i64 (x 0)) ∧ w'.cell? ⟨gk, 2, none⟩ = some (.int .i64 0) ∧ w'.cell? ⟨gk, 3, none⟩ = some (.int .i64 1) ∧ w'.cell? ⟨gk, 4, none⟩ = some (.int .i64 2)) w3 := by
    refine ⟨g1.k1, ?_, ?_, ?_, ?_⟩
    · rw [g1.m.cell 0 (by decide), Hg.out.cell 0 (by decide)]
    all_goals
      rw [cells_of hk3]
      rfl
  have z0 := g1.m.free 0
  have G1 := Lib.hid g1
  clear g1 hk3
  refine hK _ _ (fun _ => hS1) (fun hKq => ?_)
  clear hK K hKq
  try simp only [Act.put, List.setIfInBounds_toArray, List.set_cons_zero, List.set_cons_succ]
  refine AnyL.one 19 (by kernel_rfl) rfl (fun K hK => ?_)
  go_simp
  refine hK _ _ (fun _ => hS1) (fun hKq => ?_)
  clear hK K hKq
  try simp only [Act.put, List.setIfInBounds_toArray, List.set_cons_zero, List.set_cons_succ]
  refine AnyL.one 20 (by kernel_rfl) rfl (fun K hK => ?_)
  go_simp
  refine hK _ _ (fun _ => hS1) (fun hKq => ?_)
  clear hK K hKq
  try simp only [Act.put, List.setIfInBounds_toArray, List.set_cons_zero, List.set_cons_succ]
  refine AnyL.one 21 (by kernel_rfl) rfl (fun K hK => ?_)
  go_simp
  refine hK _ _ (fun _ => hS1) (fun hKq => ?_)
  clear hK K hKq
  try simp only [Act.put, List.setIfInBounds_toArray, List.set_cons_zero, List.set_cons_succ]
  refine AnyL.one 22 (by kernel_rfl) rfl (fun K hK => ?_)
  go_simp
  refine hK _ _ (fun _ => hS1) (fun hKq => ?_)
  clear hK K hKq
  try simp only [Act.put, List.setIfInBounds_toArray, List.set_cons_zero, List.set_cons_succ]
  refine AnyL.one 23 (by kernel_rfl) rfl (fun K hK => ?_)
  go_simp
  refine hK _ _ (fun h => absurd rfl h) (fun hKq => ?_)
  clear hK K hKq
  try simp only [Act.put, List.setIfInBounds_toArray, List.set_cons_zero, List.set_cons_succ]
  refine AnyL.done (by kernel_rfl) ?_ _
  have g2 := G1.out.setM HC.out 0 (.int .i64 0)
  clear hS0 hS1 hS8 z0 HS2 HK2
  generalize w3.setCell ⟨mb, 0, none⟩ (.int .i64 0) = w4 at *
  have k0 := g2.k0
  have k2 := g2.k2
  have m0 : w4.cell? ⟨mb, 0, none⟩ = some (.int .i64 0) := by rw [g2.m.cell 0 (by decide), upd_same]
  have G2 := Lib.hid g2
  clear g2 G1
  go_wp2_with fail
  refine (wk_modes (own := fun i => x (2 + i)) HC.out G2.out H0.out H21.out Hb.out.1 Hb.out.2.1 Hb.out.2.2 Khm.out Khu.out (fun i hi => by
    rw [upd_ne _ _ (by omega), Hg.out.cell (2 + i) (by omega)]
    exact ⟨rfl, Hg.out.range (by omega) (Khm.out i hi) (by decide)⟩) (fun hwr i hi => Hg.out.told hwr (2 + i) (by omega))).mono ?_
  rintro e w5 ⟨rfl, F2, g3⟩
  have k0 := g3.k0
  have k2 := g3.k2
  have G3 := Lib.hid g3
  clear g3 G2 m0
  have m0 : w5.cell? ⟨mb, 0, none⟩ = some (.int .i64 0) := by rw [G3.out.m.cell 0 (by decide), laidM_off (by omega), upd_same]
  go_wp2_with fail
  refine (sx_within 0 _).mono ?_
  rintro e w9 ⟨rfl, rfl⟩
  rw [show withinB 0 = true from rfl]
  go_wp2_with fail
  clear m0 k0 k2
  have hSc : (fun w' => w'.cell? ⟨kb, 1, none⟩ = some (.iface c.T c.pv) ∧ w'.cell? ⟨mb, 19, none⟩ = some (.int .i64 (x 19))) w5.drew := by
    refine ⟨G3.out.k1, ?_⟩
    show w5.cell? ⟨mb, 19, none⟩ = _
    rw [G3.out.m.cell 19 (by decide), laidM_off (by omega), upd_ne _ _ (by decide), Hg.out.cell 19 (by decide)]
  refine wp_region_L (by kernel_rfl) (fun w' => w'.cell? ⟨kb, 1, none⟩ = some (.iface c.T c.pv) ∧ w'.cell? ⟨mb, 19, none⟩ = some (.int .i64 (x 19))) 14 ?_
  have hS0 : (fun w' => w'.cell? ⟨kb, 1, none⟩ = some (.iface c.T c.pv) ∧ w'.cell? ⟨mb, 19, none⟩ = some (.int .i64 (x 19))) w5.drew := hSc
  refine AnyL.take 0 (v := ?_) rfl (by kernel_rfl) (by kernel_rfl) (by kernel_rfl) (by kernel_rfl) (fun _ _ _ h => h) (by assumption) (Or.inl ⟨by rfl, ?_⟩) ?_
  rotate_left
  · (intro w' hSw; (try dsimp only at hSw); go_simp; try (with_reducible rfl))
  try simp only [Act.put, List.setIfInBounds_toArray, List.set_cons_zero, List.set_cons_succ]
  refine AnyL.take 1 (v := ?_) rfl (by kernel_rfl) (by kernel_rfl) (by kernel_rfl) (by kernel_rfl) (fun _ _ _ h => h) (by assumption) (Or.inl ⟨by rfl, ?_⟩) ?_
  rotate_left
  · (intro w' hSw; (try dsimp only at hSw); go_simp; try (with_reducible rfl))
  try simp only [Act.put, List.setIfInBounds_toArray, List.set_cons_zero, List.set_cons_succ]
  refine AnyL.take 2 (v := ?_) rfl (by kernel_rfl) (by kernel_rfl) (by kernel_rfl) (by kernel_rfl) (fun _ _ _ h => h) (by assumption) (Or.inl ⟨by rfl, ?_⟩) ?_
  rotate_left
  · (intro w' hSw; (try dsimp only at hSw); go_simp; try (with_reducible rfl))
  try simp only [Act.put, List.setIfInBounds_toArray, List.set_cons_zero, List.set_cons_succ]
  refine AnyL.take 3 (v := ?_) rfl (by kernel_rfl) (by kernel_rfl) (by kernel_rfl) (by kernel_rfl) (fun _ _ _ h => h) (by assumption) (Or.inl ⟨by rfl, ?_⟩) ?_
  rotate_left
  · (intro w' hSw; (try dsimp only at hSw); go_simp; try (with_reducible rfl))
  try simp only [Act.put, List.setIfInBounds_toArray, List.set_cons_zero, List.set_cons_succ]
  refine AnyL.take 4 (v := ?_) rfl (by kernel_rfl) (by kernel_rfl) (by kernel_rfl) (by kernel_rfl) (fun _ _ _ h => h) (by assumption) (Or.inl ⟨by rfl, ?_⟩) ?_
  rotate_left
  · (intro w' hSw; (try dsimp only at hSw); go_simp; try (with_reducible rfl))
  try simp only [Act.put, List.setIfInBounds_toArray, List.set_cons_zero, List.set_cons_succ]
  refine AnyL.take 5 (v := ?_) rfl (by kernel_rfl) (by kernel_rfl) (by kernel_rfl) (by kernel_rfl) (fun _ _ _ h => h) (by assumption) (Or.inl ⟨by rfl, ?_⟩) ?_
  rotate_left
  · (intro w' hSw; (try dsimp only at hSw); go_simp; try (with_reducible rfl))
  try simp only [Act.put, List.setIfInBounds_toArray, List.set_cons_zero, List.set_cons_succ]
  refine AnyL.take 6 (v := ?_) rfl (by kernel_rfl) (by kernel_rfl) (by kernel_rfl) (by kernel_rfl) (fun _ _ _ h => h) (by assumption) (Or.inl ⟨by rfl, ?_⟩) ?_
  rotate_left
  · (intro w' hSw; (try dsimp only at hSw); go_simp; try (with_reducible rfl))
  try simp only [Act.put, List.setIfInBounds_toArray, List.set_cons_zero, List.set_cons_succ]
  refine AnyL.take 7 (v := ?_) rfl (by kernel_rfl) (by kernel_rfl) (by kernel_rfl) (by kernel_rfl) (fun _ _ _ h => h) (by assumption) (Or.inl ⟨by rfl, ?_⟩) ?_
  rotate_left
  · (intro w' hSw; (try dsimp only at hSw); go_simp; try (with_reducible rfl))
  try simp only [Act.put, List.setIfInBounds_toArray, List.set_cons_zero, List.set_cons_succ]
  refine AnyL.take 8 (v := ?_) rfl (by kernel_rfl) (by kernel_rfl) (by kernel_rfl) (by kernel_rfl) (fun _ _ _ h => h) (by assumption) (Or.inl ⟨by rfl, ?_⟩) ?_
  rotate_left
  · (intro w' hSw; (try dsimp only at hSw); go_simp; try (with_reducible rfl))
  try simp only [Act.put, List.setIfInBounds_toArray, List.set_cons_zero, List.set_cons_succ]
  refine AnyL.take 9 (v := ?_) rfl (by kernel_rfl) (by kernel_rfl) (by kernel_rfl) (by kernel_rfl) (fun _ _ _ h => h) (by assumption) (Or.inl ⟨by rfl, ?_⟩) ?_
  rotate_left
  · (intro w' hSw; (try dsimp only at hSw); go_simp; try (with_reducible rfl))
  try simp only [Act.put, List.setIfInBounds_toArray, List.set_cons_zero, List.set_cons_succ]
  refine AnyL.take 10 (v := ?_) rfl (by kernel_rfl) (by kernel_rfl) (by kernel_rfl) (by kernel_rfl) (fun _ _ _ h => h) (by assumption) (Or.inl ⟨by rfl, ?_⟩) ?_
  rotate_left
  · (intro w' hSw; (try dsimp only at hSw); go_simp; try (with_reducible rfl))
  try simp only [Act.put, List.setIfInBounds_toArray, List.set_cons_zero, List.set_cons_succ]
  refine AnyL.one 11 (by kernel_rfl) rfl (fun K hK => ?_)
  go_simp
  refine ((G3.out.drew HC.out).elem HC.out (x 19) (fun hwr => Hg.out.told hwr 19 (by decide))).mono ?_
  rintro e w6 ⟨rfl, F3, g1⟩
  have hS1 : (fun w' => w'.cell? ⟨kb, 1, none⟩ = some (.iface c.T c.pv) ∧ w'.cell? ⟨mb, 19, none⟩ = some (.int .i64 (x 19))) w6 := by
    refine ⟨g1.k1, ?_⟩
    rw [g1.m.cell 19 (by decide), laidM_off (by omega), upd_ne _ _ (by decide), Hg.out.cell 19 (by decide)]
  have z0 := g1.m.free 19
  have G1 := Lib.hid g1
  clear g1
  refine hK _ _ (fun _ => hS1) (fun hKq => ?_)
  clear hK K hKq
  try simp only [Act.put, List.setIfInBounds_toArray, List.set_cons_zero, List.set_cons_succ]
  refine AnyL.one 12 (by kernel_rfl) rfl (fun K hK => ?_)
  go_simp
  refine hK _ _ (fun _ => hS1) (fun hKq => ?_)
  clear hK K hKq
  try simp only [Act.put, List.setIfInBounds_toArray, List.set_cons_zero, List.set_cons_succ]
  refine AnyL.one 13 (by kernel_rfl) rfl (fun K hK => ?_)
  go_simp
  refine hK _ _ (fun _ => hS1) (fun hKq => ?_)
  clear hK K hKq
  try simp only [Act.put, List.setIfInBounds_toArray, List.set_cons_zero, List.set_cons_succ]
  refine AnyL.one 14 (by kernel_rfl) rfl (fun K hK => ?_)
  go_simp
  refine hK _ _ (fun h => absurd rfl h) (fun hKq => ?_)
  clear hK K hKq
  try simp only [Act.put, List.setIfInBounds_toArray, List.set_cons_zero, List.set_cons_succ]
  refine AnyL.done (by kernel_rfl) ?_ _
  have g2 := G1.out.setM HC.out 19 (.int .i64 (y 19))
  clear hS0 hS1 hSc z0 G3
  generalize w6.setCell ⟨mb, 19, none⟩ (.int .i64 (y 19)) = w6' at *
  have k0 := g2.k0
  have k2 := g2.k2
  have G4 := Lib.hid g2
  clear g2 G1
  go_wp2_with fail
  refine (wk_restsTold HC.out G4.out H0.out H21.out Hb.out.1 Hb.out.2.1 Hb.out.2.2 Kh22.out (by rw [upd_ne _ _ (by decide), laidM_off (by omega), upd_same]) (cb := x 48) (by rw [upd_ne _ _ (by omega), laidM_off (by omega), upd_ne _ _ (by omega), Hg.out.cell 48 (by decide)]) (v := x 49) (by rw [upd_ne _ _ (by omega), laidM_off (by omega), upd_ne _ _ (by omega), Hg.out.cell 49 (by decide)])
    (fun j h1 h2 => ⟨x j, by rw [upd_ne _ _ (by omega), laidM_off (by omega), upd_ne _ _ (by omega), Hg.out.cell j h2]⟩) (Hg.out.range (by decide) (by rw [Khy48.out]; have := KhL.out; have := KhH.out; omega) (by decide)) (fun hwr j h1 h2 => by rw [upd_ne _ _ (by omega), laidM_off (by omega), upd_ne _ _ (by omega), Hg.out.cell j h2, Hg.out.told hwr j h2]) (by decide) KhL.out KhT.out KhH.out Khy48.out Khinc.out ⟨Hds.out, Khdc.out⟩ Hp.out Khd.out Khq.out (Hg.out.range (by decide) Khyq.out (by decide))).mono ?_
  rintro e w7 ⟨rfl, F4, g5⟩
  rw [all_told0 Hg.out Hy0.out Hz.out] at g5
  have G5 := Lib.hid g5
  clear g5 G4 k0 k2
  go_wp2_with fail
  refine (wk_fill (d := dOf y) G5.out HC.out (laidY_at (by decide)) (laidY_at (by decide)) (fun i hi => laidY_at (by omega)) (fun i hi => laidY_at (by omega)) Hb.out.2.2 (by show y 0 ≠ 3 ∧ y 0 ≠ 5; rw [Hy0.out]; decide)).mono ?_
  rintro e w8 ⟨rfl, v', g6⟩
  have G6 := Lib.hid g6
  clear g6 G5
  go_wp2
  go_end0
  refine ⟨rfl, v', F4, ?_⟩
  have := G6.out
  rw [donesA_snoc]
  rw [upd_ne _ _ (by decide)] at this
  exact this
end Go.Proofs.YtcppbdlmcbjmeaaGreatDoor

namespace Go.Proofs.YtcppbdlmcbjmeaaGreatDoor
open Go.RowKit
set_option maxRecDepth 100000 in
set_option maxHeartbeats 6400000 in
theorem wk_run2_0n {c : Cod} {F0 F : List Nat} {w0 w : World} {kb sb mb n f wide : Nat} {S X : Nat → Value} {ds : List DoneP} {r : List Ask} {x y : Nat → Int} {p d inc : Int} {L G : Nat} (hc : c.Ok)
    (h : Scene c F0 w0 w kb sb mb S X n (donesA ds) F (.elem 1 (countN withinB ds f wide n) 0 2 :: (modesAsk (fun b => modeAsk (usualB ds f wide n (fun i => y (2 + i)) b) (y (2 + b))) 16 ++ (.elem 5 0 (y 19) 3 :: (restAsk 0 L G d inc y ++ r)))))
    (h0 : S 0 = .int .i64 f) (h2 : S 2 = .int .i64 2) (h21 : S 21 = .int .i64 wide) (bf : f ≤ 1000000) (bw : 1 ≤ wide ∧ wide ≤ 1000000) (bn : n ≤ 1000000) (hds : ds.length = n) (hg : MbGiven c.wr X x y) (hy0 : y 0 = 0)
    (h22 : S 22 = .int .i64 p) (hL : L ≤ 15) (hH : G ≤ 2) (hy48 : y 48 = L + 16 * G) (hinc : inc = flagN (decide (0 < leftC ds (leftN f wide n)))) (hdc : ∀ d ∈ ds, 0 ≤ d.cbp ∧ d.cbp ≤ 47) (hp : 0 ≤ p ∧ p ≤ 51) (hd : -26 ≤ d ∧ d ≤ 25) (hq : y 49 = (p + d + 52) % 52) (hyq : 0 ≤ y 49 ∧ y 49 ≤ 51)
    (hz : ∀ j, j < 482 → ¬ (j = 0 ∨ (2 ≤ j ∧ j < 18) ∨ j = 19 ∨ restT 0 L G j) → y j = 0)
    (hm : ∀ i, i < 16 → 0 ≤ y (2 + i) ∧ y (2 + i) ≤ 8) (hu : ∀ i, i < 16 → 0 ≤ usualB ds f wide n (fun i => y (2 + i)) i ∧ usualB ds f wide n (fun i => y (2 + i)) i ≤ 8) (hT : ¬ 0 < L + 16 * G) :
    Calls Tryz.prog 37 #[.pointer (some ⟨kb, 0, none⟩)] w fun e w' => e = .returned (.tuple #[]) ∧ ∃ (v' : Value) (F' : List Nat), Ran c F0 w0 w' sb mb (upd S 23 v') (laidY X y) (n + 1) (donesA (ds ++ [dOf y])) F' r (S 23).ownBlock.toList := by
  have mE := hc.mE
  have eE := hc.eE
  have HS := Lib.hid h
  have HC := Lib.hid hc
  have H0 := Lib.hid h0
  have H2 := Lib.hid h2
  have H21 := Lib.hid h21
  have Hb := Lib.hid (And.intro bf (And.intro bw bn))
  have Hds := Lib.hid hds
  have Hg := Lib.hid hg
  have Hy0 := Lib.hid hy0
  have Hz := Lib.hid hz
  have Hp := Lib.hid hp
  have Kh22 := Lib.hid h22
  have KhL := Lib.hid hL
  have KhH := Lib.hid hH
  have Khy48 := Lib.hid hy48
  have Khinc := Lib.hid hinc
  have Khdc := Lib.hid hdc
  have Khd := Lib.hid hd
  have Khq := Lib.hid hq
  have Khyq := Lib.hid hyq
  have Khm := Lib.hid hm
  have Khu := Lib.hid hu
  have KhT := Lib.hid hT
  have k0 := HS.out.k0
  have k2 := HS.out.k2
  have s2 : w.cell? ⟨sb, 2, none⟩ = some (.int .i64 2) := by rw [HS.out.s.cell 2 (by decide), H2.out]
  clear h hc h0 h2 h21 bf bw bn hds hg hy0 hz hp h22 hL hH hy48 hinc hdc hd hq hyq hm hu hT
  go_enter Tryz.func37, Tryz.ntmps37
  go_wp2_with fail
  refine (sx_kinds 2 2 (.inr (.inr ⟨rfl, rfl⟩)) w).mono ?_
  rintro e w1 ⟨rfl, hk1, ho1, hz1⟩
  have hs1 := HS.out.same HC.out ho1
  have hgk : w.heap.size ∉ F := fun hm => by have := HC.out.low F _ _ HS.out.c _ hm; omega
  have hgkb : w.heap.size ≠ kb ∧ w.heap.size ≠ sb ∧ w.heap.size ≠ mb := by
    have := lt_of_block HS.out.k; have := HS.out.s.lt; have := HS.out.m.lt
    omega
  obtain ⟨gk, hgkd⟩ : ∃ gk, gk = w.heap.size := ⟨_, rfl⟩
  rw [← hgkd] at hk1 hgk hgkb ⊢
  have HS1 := Lib.hid hs1
  have HK1 := Lib.hid hk1
  have Hgk := Lib.hid hgk
  have Hgkb := Lib.hid hgkb
  have HO1 := Lib.hid ho1
  have k0 := hs1.k0
  have k2 := hs1.k2
  clear hs1 hk1 hgk hgkb hgkd ho1 hz1 s2
  go_wp2_with fail
  refine (st_count (A := withinB) (HS1.out.st H0.out H21.out Hb.out.1 Hb.out.2.1 Hb.out.2.2) Hds.out (fun args w => run_enter Tryz.func67 (by kernel_rfl) (by kernel_rfl) args w) (fun g o k w hh => run2_is g o k w hh)).mono ?_
  rintro e w2 ⟨rfl, ho2⟩
  have hs2 := HS1.out.same HC.out ho2
  have hk2 := ho2.heap HK1.out (by simp)
  obtain ⟨cn, hcn⟩ : ∃ cn, cn = countN withinB ds f wide n := ⟨_, rfl⟩
  rw [← hcn] at hs2 ⊢
  have HO2 : Hid (Only [] w w2) := Lib.hid (HO1.out.trans ho2)
  have HS2 := Lib.hid hs2
  have HK2 := Lib.hid hk2
  clear hs2 hk2 ho2 HS1 HK1 k0 k2 hcn HO1
  go_wp2_with fail
  have hS8 : (fun w' => w'.cell? ⟨kb, 1, none⟩ = some (.iface c.T c.pv) ∧ w'.cell? ⟨mb, 0, none⟩ = some (.int .i64 (x 0)) ∧ w'.cell? ⟨gk, 2, none⟩ = some (.int .i64 0) ∧ w'.cell? ⟨gk, 3, none⟩ = some (.int .i64 1) ∧ w'.cell? ⟨gk, 4, none⟩ = some (.int .i64 2)) w2.drew := by
    refine ⟨HS2.out.k1, ?_, ?_, ?_, ?_⟩
    · show w2.cell? ⟨mb, 0, none⟩ = _
      rw [HS2.out.m.cell 0 (by decide), Hg.out.cell 0 (by decide)]
    all_goals
      show w2.cell? _ = _
      rw [cells_of HK2.out]
      rfl
  refine wp_region_L (by kernel_rfl) (fun w' => w'.cell? ⟨kb, 1, none⟩ = some (.iface c.T c.pv) ∧ w'.cell? ⟨mb, 0, none⟩ = some (.int .i64 (x 0)) ∧ w'.cell? ⟨gk, 2, none⟩ = some (.int .i64 0) ∧ w'.cell? ⟨gk, 3, none⟩ = some (.int .i64 1) ∧ w'.cell? ⟨gk, 4, none⟩ = some (.int .i64 2)) 23 ?_
  have hS0 : (fun w' => w'.cell? ⟨kb, 1, none⟩ = some (.iface c.T c.pv) ∧ w'.cell? ⟨mb, 0, none⟩ = some (.int .i64 (x 0)) ∧ w'.cell? ⟨gk, 2, none⟩ = some (.int .i64 0) ∧ w'.cell? ⟨gk, 3, none⟩ = some (.int .i64 1) ∧ w'.cell? ⟨gk, 4, none⟩ = some (.int .i64 2)) w2.drew := hS8
  refine AnyL.take 0 (v := ?_) rfl (by kernel_rfl) (by kernel_rfl) (by kernel_rfl) (by kernel_rfl) (fun _ _ _ h => h) (by assumption) (Or.inl ⟨by rfl, ?_⟩) ?_
  rotate_left
  · (intro w' hSw; (try dsimp only at hSw); go_simp; try (with_reducible rfl))
  try simp only [Act.put, List.setIfInBounds_toArray, List.set_cons_zero, List.set_cons_succ]
  refine AnyL.take 1 (v := ?_) rfl (by kernel_rfl) (by kernel_rfl) (by kernel_rfl) (by kernel_rfl) (fun _ _ _ h => h) (by assumption) (Or.inl ⟨by rfl, ?_⟩) ?_
  rotate_left
  · (intro w' hSw; (try dsimp only at hSw); go_simp; try (with_reducible rfl))
  try simp only [Act.put, List.setIfInBounds_toArray, List.set_cons_zero, List.set_cons_succ]
  refine AnyL.take 2 (v := ?_) rfl (by kernel_rfl) (by kernel_rfl) (by kernel_rfl) (by kernel_rfl) (fun _ _ _ h => h) (by assumption) (Or.inl ⟨by rfl, ?_⟩) ?_
  rotate_left
  · (intro w' hSw; (try dsimp only at hSw); go_simp; try (with_reducible rfl))
  try simp only [Act.put, List.setIfInBounds_toArray, List.set_cons_zero, List.set_cons_succ]
  refine AnyL.take 3 (v := ?_) rfl (by kernel_rfl) (by kernel_rfl) (by kernel_rfl) (by kernel_rfl) (fun _ _ _ h => h) (by assumption) (Or.inl ⟨by rfl, ?_⟩) ?_
  rotate_left
  · (intro w' hSw; (try dsimp only at hSw); go_simp; try (with_reducible rfl))
  try simp only [Act.put, List.setIfInBounds_toArray, List.set_cons_zero, List.set_cons_succ]
  refine AnyL.take 4 (v := ?_) rfl (by kernel_rfl) (by kernel_rfl) (by kernel_rfl) (by kernel_rfl) (fun _ _ _ h => h) (by assumption) (Or.inl ⟨by rfl, ?_⟩) ?_
  rotate_left
  · (intro w' hSw; (try dsimp only at hSw); go_simp; try (with_reducible rfl))
  try simp only [Act.put, List.setIfInBounds_toArray, List.set_cons_zero, List.set_cons_succ]
  refine AnyL.take 5 (v := ?_) rfl (by kernel_rfl) (by kernel_rfl) (by kernel_rfl) (by kernel_rfl) (fun _ _ _ h => h) (by assumption) (Or.inl ⟨by rfl, ?_⟩) ?_
  rotate_left
  · (intro w' hSw; (try dsimp only at hSw); go_simp; try (with_reducible rfl))
  try simp only [Act.put, List.setIfInBounds_toArray, List.set_cons_zero, List.set_cons_succ]
  refine AnyL.take 6 (v := ?_) rfl (by kernel_rfl) (by kernel_rfl) (by kernel_rfl) (by kernel_rfl) (fun _ _ _ h => h) (by assumption) (Or.inl ⟨by rfl, ?_⟩) ?_
  rotate_left
  · (intro w' hSw; (try dsimp only at hSw); go_simp; try (with_reducible rfl))
  try simp only [Act.put, List.setIfInBounds_toArray, List.set_cons_zero, List.set_cons_succ]
  refine AnyL.take 7 (v := ?_) rfl (by kernel_rfl) (by kernel_rfl) (by kernel_rfl) (by kernel_rfl) (fun _ _ _ h => h) (by assumption) (Or.inl ⟨by rfl, ?_⟩) ?_
  rotate_left
  · (intro w' hSw; (try dsimp only at hSw); go_simp; try (with_reducible rfl))
  try simp only [Act.put, List.setIfInBounds_toArray, List.set_cons_zero, List.set_cons_succ]
  refine AnyL.take 8 (v := ?_) rfl (by kernel_rfl) (by kernel_rfl) (by kernel_rfl) (by kernel_rfl) (fun _ _ _ h => h) (by assumption) (Or.inl ⟨by rfl, ?_⟩) ?_
  rotate_left
  · (intro w' hSw; (try dsimp only at hSw); go_simp; try (with_reducible rfl))
  try simp only [Act.put, List.setIfInBounds_toArray, List.set_cons_zero, List.set_cons_succ]
  refine AnyL.take 9 (v := ?_) rfl (by kernel_rfl) (by kernel_rfl) (by kernel_rfl) (by kernel_rfl) (fun _ _ _ h => h) (by assumption) (Or.inl ⟨by rfl, ?_⟩) ?_
  rotate_left
  · (intro w' hSw; (try dsimp only at hSw); go_simp; try (with_reducible rfl))
  try simp only [Act.put, List.setIfInBounds_toArray, List.set_cons_zero, List.set_cons_succ]
  refine AnyL.take 10 (v := ?_) rfl (by kernel_rfl) (by kernel_rfl) (by kernel_rfl) (by kernel_rfl) (fun _ _ _ h => h) (by assumption) (Or.inl ⟨by rfl, ?_⟩) ?_
  rotate_left
  · (intro w' hSw; (try dsimp only at hSw); go_simp; try (with_reducible rfl))
  try simp only [Act.put, List.setIfInBounds_toArray, List.set_cons_zero, List.set_cons_succ]
  refine AnyL.take 11 (v := ?_) rfl (by kernel_rfl) (by kernel_rfl) (by kernel_rfl) (by kernel_rfl) (fun _ _ _ h => h) (by assumption) (Or.inl ⟨by rfl, ?_⟩) ?_
  rotate_left
  · (intro w' hSw; (try dsimp only at hSw); go_simp; try (with_reducible rfl))
  try simp only [Act.put, List.setIfInBounds_toArray, List.set_cons_zero, List.set_cons_succ]
  refine AnyL.take 13 (v := ?_) rfl (by kernel_rfl) (by kernel_rfl) (by kernel_rfl) (by kernel_rfl) (fun _ _ _ h => h) (by assumption) (Or.inl ⟨by rfl, ?_⟩) ?_
  rotate_left
  · (intro w' hSw; (try dsimp only at hSw); go_simp; try (with_reducible rfl))
  try simp only [Act.put, List.setIfInBounds_toArray, List.set_cons_zero, List.set_cons_succ]
  refine AnyL.take 14 (v := ?_) rfl (by kernel_rfl) (by kernel_rfl) (by kernel_rfl) (by kernel_rfl) (fun _ _ _ h => h) (by assumption) (Or.inl ⟨by rfl, ?_⟩) ?_
  rotate_left
  · (intro w' hSw; (try dsimp only at hSw); go_simp; try (with_reducible rfl))
  try simp only [Act.put, List.setIfInBounds_toArray, List.set_cons_zero, List.set_cons_succ]
  refine AnyL.take 15 (v := ?_) rfl (by kernel_rfl) (by kernel_rfl) (by kernel_rfl) (by kernel_rfl) (fun _ _ _ h => h) (by assumption) (Or.inl ⟨by rfl, ?_⟩) ?_
  rotate_left
  · (intro w' hSw; (try dsimp only at hSw); go_simp; try (with_reducible rfl))
  try simp only [Act.put, List.setIfInBounds_toArray, List.set_cons_zero, List.set_cons_succ]
  refine AnyL.take 16 (v := ?_) rfl (by kernel_rfl) (by kernel_rfl) (by kernel_rfl) (by kernel_rfl) (fun _ _ _ h => h) (by assumption) (Or.inl ⟨by rfl, ?_⟩) ?_
  rotate_left
  · (intro w' hSw; (try dsimp only at hSw); go_simp; try (with_reducible rfl))
  try simp only [Act.put, List.setIfInBounds_toArray, List.set_cons_zero, List.set_cons_succ]
  refine AnyL.take 17 (v := ?_) rfl (by kernel_rfl) (by kernel_rfl) (by kernel_rfl) (by kernel_rfl) (fun _ _ _ h => h) (by assumption) (Or.inl ⟨by rfl, ?_⟩) ?_
  rotate_left
  · (intro w' hSw; (try dsimp only at hSw); go_simp; try (with_reducible rfl))
  try simp only [Act.put, List.setIfInBounds_toArray, List.set_cons_zero, List.set_cons_succ]
  refine AnyL.one 12 (by kernel_rfl) rfl (fun K hK => ?_)
  go_simp
  refine (sx_index (x 0) gk 2 3 3 [0, 1, 2] w2.drew rfl (by decide) (by
    intro i hi
    rcases (show i = 0 ∨ i = 1 ∨ i = 2 by omega) with rfl | rfl | rfl
    · exact hS0.2.2.1
    · exact hS0.2.2.2.1
    · exact hS0.2.2.2.2)).mono ?_
  rintro e w3 ⟨rfl, rfl⟩
  refine hK _ _ (fun _ => hS0) (fun hKq => ?_)
  clear hK K hKq
  try simp only [Act.put, List.setIfInBounds_toArray, List.set_cons_zero, List.set_cons_succ]
  refine AnyL.one 18 (by kernel_rfl) rfl (fun K hK => ?_)
  go_simp
  refine ((HS2.out.drew HC.out).here.elem HC.out (idxL (x 0) [0, 1, 2] 0 : Nat) (fun hwr => by
    rw [Hg.out.told hwr 0 (by decide), Hy0.out]
    rfl)).mono ?_
  rintro e w3 ⟨rfl, F1, g0⟩
  have hk3 : w3.heap[gk]? = some (.cells (kAll.map (Value.int .i64)).toArray 3 (0, 0)) := g0.o.heap (show w2.drew.heap[gk]? = _ from HK2.out) (by
    simp only [List.mem_cons, not_or]
    exact ⟨Hgkb.out.2.1, Hgkb.out.2.2, Hgk.out⟩)
  have g1 := (HS2.out.drew HC.out).trans g0
  clear g0
  have hS1 : (fun w' => w'.cell? ⟨kb, 1, none⟩ = some (.iface c.T c.pv) ∧ w'.cell? ⟨mb, 0, none⟩ = some (.int .i64 (x 0)) ∧ w'.cell? ⟨gk, 2, none⟩ = some (.int .i64 0) ∧ w'.cell? ⟨gk, 3, none⟩ = some (.int .i64 1) ∧ w'.cell? ⟨gk, 4, none⟩ = some (.int .i64 2)) w3 := by
    refine ⟨g1.k1, ?_, ?_, ?_, ?_⟩
    · rw [g1.m.cell 0 (by decide), Hg.out.cell 0 (by decide)]
    all_goals
      rw [cells_of hk3]
      rfl
  have z0 := g1.m.free 0
  have G1 := Lib.hid g1
  clear g1 hk3
  refine hK _ _ (fun _ => hS1) (fun hKq => ?_)
  clear hK K hKq
  try simp only [Act.put, List.setIfInBounds_toArray, List.set_cons_zero, List.set_cons_succ]
  refine AnyL.one 19 (by kernel_rfl) rfl (fun K hK => ?_)
  go_simp
  refine hK _ _ (fun _ => hS1) (fun hKq => ?_)
  clear hK K hKq
  try simp only [Act.put, List.setIfInBounds_toArray, List.set_cons_zero, List.set_cons_succ]
  refine AnyL.one 20 (by kernel_rfl) rfl (fun K hK => ?_)
  go_simp
  refine hK _ _ (fun _ => hS1) (fun hKq => ?_)
  clear hK K hKq
  try simp only [Act.put, List.setIfInBounds_toArray, List.set_cons_zero, List.set_cons_succ]
  refine AnyL.one 21 (by kernel_rfl) rfl (fun K hK => ?_)
  go_simp
  refine hK _ _ (fun _ => hS1) (fun hKq => ?_)
  clear hK K hKq
  try simp only [Act.put, List.setIfInBounds_toArray, List.set_cons_zero, List.set_cons_succ]
  refine AnyL.one 22 (by kernel_rfl) rfl (fun K hK => ?_)
  go_simp
  refine hK _ _ (fun _ => hS1) (fun hKq => ?_)
  clear hK K hKq
  try simp only [Act.put, List.setIfInBounds_toArray, List.set_cons_zero, List.set_cons_succ]
  refine AnyL.one 23 (by kernel_rfl) rfl (fun K hK => ?_)
  go_simp
  refine hK _ _ (fun h => absurd rfl h) (fun hKq => ?_)
  clear hK K hKq
  try simp only [Act.put, List.setIfInBounds_toArray, List.set_cons_zero, List.set_cons_succ]
  refine AnyL.done (by kernel_rfl) ?_ _
  have g2 := G1.out.setM HC.out 0 (.int .i64 0)
  clear hS0 hS1 hS8 z0 HS2 HK2
  generalize w3.setCell ⟨mb, 0, none⟩ (.int .i64 0) = w4 at *
  have k0 := g2.k0
  have k2 := g2.k2
  have m0 : w4.cell? ⟨mb, 0, none⟩ = some (.int .i64 0) := by rw [g2.m.cell 0 (by decide), upd_same]
  have G2 := Lib.hid g2
  clear g2 G1
  go_wp2_with fail
  refine (wk_modes (own := fun i => x (2 + i)) HC.out G2.out H0.out H21.out Hb.out.1 Hb.out.2.1 Hb.out.2.2 Khm.out Khu.out (fun i hi => by
    rw [upd_ne _ _ (by omega), Hg.out.cell (2 + i) (by omega)]
    exact ⟨rfl, Hg.out.range (by omega) (Khm.out i hi) (by decide)⟩) (fun hwr i hi => Hg.out.told hwr (2 + i) (by omega))).mono ?_
  rintro e w5 ⟨rfl, F2, g3⟩
  have k0 := g3.k0
  have k2 := g3.k2
  have G3 := Lib.hid g3
  clear g3 G2 m0
  have m0 : w5.cell? ⟨mb, 0, none⟩ = some (.int .i64 0) := by rw [G3.out.m.cell 0 (by decide), laidM_off (by omega), upd_same]
  go_wp2_with fail
  refine (sx_within 0 _).mono ?_
  rintro e w9 ⟨rfl, rfl⟩
  rw [show withinB 0 = true from rfl]
  go_wp2_with fail
  clear m0 k0 k2
  have hSc : (fun w' => w'.cell? ⟨kb, 1, none⟩ = some (.iface c.T c.pv) ∧ w'.cell? ⟨mb, 19, none⟩ = some (.int .i64 (x 19))) w5.drew := by
    refine ⟨G3.out.k1, ?_⟩
    show w5.cell? ⟨mb, 19, none⟩ = _
    rw [G3.out.m.cell 19 (by decide), laidM_off (by omega), upd_ne _ _ (by decide), Hg.out.cell 19 (by decide)]
  refine wp_region_L (by kernel_rfl) (fun w' => w'.cell? ⟨kb, 1, none⟩ = some (.iface c.T c.pv) ∧ w'.cell? ⟨mb, 19, none⟩ = some (.int .i64 (x 19))) 14 ?_
  have hS0 : (fun w' => w'.cell? ⟨kb, 1, none⟩ = some (.iface c.T c.pv) ∧ w'.cell? ⟨mb, 19, none⟩ = some (.int .i64 (x 19))) w5.drew := hSc
  refine AnyL.take 0 (v := ?_) rfl (by kernel_rfl) (by kernel_rfl) (by kernel_rfl) (by kernel_rfl) (fun _ _ _ h => h) (by assumption) (Or.inl ⟨by rfl, ?_⟩) ?_
  rotate_left
  · (intro w' hSw; (try dsimp only at hSw); go_simp; try (with_reducible rfl))
  try simp only [Act.put, List.setIfInBounds_toArray, List.set_cons_zero, List.set_cons_succ]
  refine AnyL.take 1 (v := ?_) rfl (by kernel_rfl) (by kernel_rfl) (by kernel_rfl) (by kernel_rfl) (fun _ _ _ h => h) (by assumption) (Or.inl ⟨by rfl, ?_⟩) ?_
  rotate_left
  · (intro w' hSw; (try dsimp only at hSw); go_simp; try (with_reducible rfl))
  try simp only [Act.put, List.setIfInBounds_toArray, List.set_cons_zero, List.set_cons_succ]
  refine AnyL.take 2 (v := ?_) rfl (by kernel_rfl) (by kernel_rfl) (by kernel_rfl) (by kernel_rfl) (fun _ _ _ h => h) (by assumption) (Or.inl ⟨by rfl, ?_⟩) ?_
  rotate_left
  · (intro w' hSw; (try dsimp only at hSw); go_simp; try (with_reducible rfl))
  try simp only [Act.put, List.setIfInBounds_toArray, List.set_cons_zero, List.set_cons_succ]
  refine AnyL.take 3 (v := ?_) rfl (by kernel_rfl) (by kernel_rfl) (by kernel_rfl) (by kernel_rfl) (fun _ _ _ h => h) (by assumption) (Or.inl ⟨by rfl, ?_⟩) ?_
  rotate_left
  · (intro w' hSw; (try dsimp only at hSw); go_simp; try (with_reducible rfl))
  try simp only [Act.put, List.setIfInBounds_toArray, List.set_cons_zero, List.set_cons_succ]
  refine AnyL.take 4 (v := ?_) rfl (by kernel_rfl) (by kernel_rfl) (by kernel_rfl) (by kernel_rfl) (fun _ _ _ h => h) (by assumption) (Or.inl ⟨by rfl, ?_⟩) ?_
  rotate_left
  · (intro w' hSw; (try dsimp only at hSw); go_simp; try (with_reducible rfl))
  try simp only [Act.put, List.setIfInBounds_toArray, List.set_cons_zero, List.set_cons_succ]
  refine AnyL.take 5 (v := ?_) rfl (by kernel_rfl) (by kernel_rfl) (by kernel_rfl) (by kernel_rfl) (fun _ _ _ h => h) (by assumption) (Or.inl ⟨by rfl, ?_⟩) ?_
  rotate_left
  · (intro w' hSw; (try dsimp only at hSw); go_simp; try (with_reducible rfl))
  try simp only [Act.put, List.setIfInBounds_toArray, List.set_cons_zero, List.set_cons_succ]
  refine AnyL.take 6 (v := ?_) rfl (by kernel_rfl) (by kernel_rfl) (by kernel_rfl) (by kernel_rfl) (fun _ _ _ h => h) (by assumption) (Or.inl ⟨by rfl, ?_⟩) ?_
  rotate_left
  · (intro w' hSw; (try dsimp only at hSw); go_simp; try (with_reducible rfl))
  try simp only [Act.put, List.setIfInBounds_toArray, List.set_cons_zero, List.set_cons_succ]
  refine AnyL.take 7 (v := ?_) rfl (by kernel_rfl) (by kernel_rfl) (by kernel_rfl) (by kernel_rfl) (fun _ _ _ h => h) (by assumption) (Or.inl ⟨by rfl, ?_⟩) ?_
  rotate_left
  · (intro w' hSw; (try dsimp only at hSw); go_simp; try (with_reducible rfl))
  try simp only [Act.put, List.setIfInBounds_toArray, List.set_cons_zero, List.set_cons_succ]
  refine AnyL.take 8 (v := ?_) rfl (by kernel_rfl) (by kernel_rfl) (by kernel_rfl) (by kernel_rfl) (fun _ _ _ h => h) (by assumption) (Or.inl ⟨by rfl, ?_⟩) ?_
  rotate_left
  · (intro w' hSw; (try dsimp only at hSw); go_simp; try (with_reducible rfl))
  try simp only [Act.put, List.setIfInBounds_toArray, List.set_cons_zero, List.set_cons_succ]
  refine AnyL.take 9 (v := ?_) rfl (by kernel_rfl) (by kernel_rfl) (by kernel_rfl) (by kernel_rfl) (fun _ _ _ h => h) (by assumption) (Or.inl ⟨by rfl, ?_⟩) ?_
  rotate_left
  · (intro w' hSw; (try dsimp only at hSw); go_simp; try (with_reducible rfl))
  try simp only [Act.put, List.setIfInBounds_toArray, List.set_cons_zero, List.set_cons_succ]
  refine AnyL.take 10 (v := ?_) rfl (by kernel_rfl) (by kernel_rfl) (by kernel_rfl) (by kernel_rfl) (fun _ _ _ h => h) (by assumption) (Or.inl ⟨by rfl, ?_⟩) ?_
  rotate_left
  · (intro w' hSw; (try dsimp only at hSw); go_simp; try (with_reducible rfl))
  try simp only [Act.put, List.setIfInBounds_toArray, List.set_cons_zero, List.set_cons_succ]
  refine AnyL.one 11 (by kernel_rfl) rfl (fun K hK => ?_)
  go_simp
  refine ((G3.out.drew HC.out).elem HC.out (x 19) (fun hwr => Hg.out.told hwr 19 (by decide))).mono ?_
  rintro e w6 ⟨rfl, F3, g1⟩
  have hS1 : (fun w' => w'.cell? ⟨kb, 1, none⟩ = some (.iface c.T c.pv) ∧ w'.cell? ⟨mb, 19, none⟩ = some (.int .i64 (x 19))) w6 := by
    refine ⟨g1.k1, ?_⟩
    rw [g1.m.cell 19 (by decide), laidM_off (by omega), upd_ne _ _ (by decide), Hg.out.cell 19 (by decide)]
  have z0 := g1.m.free 19
  have G1 := Lib.hid g1
  clear g1
  refine hK _ _ (fun _ => hS1) (fun hKq => ?_)
  clear hK K hKq
  try simp only [Act.put, List.setIfInBounds_toArray, List.set_cons_zero, List.set_cons_succ]
  refine AnyL.one 12 (by kernel_rfl) rfl (fun K hK => ?_)
  go_simp
  refine hK _ _ (fun _ => hS1) (fun hKq => ?_)
  clear hK K hKq
  try simp only [Act.put, List.setIfInBounds_toArray, List.set_cons_zero, List.set_cons_succ]
  refine AnyL.one 13 (by kernel_rfl) rfl (fun K hK => ?_)
  go_simp
  refine hK _ _ (fun _ => hS1) (fun hKq => ?_)
  clear hK K hKq
  try simp only [Act.put, List.setIfInBounds_toArray, List.set_cons_zero, List.set_cons_succ]
  refine AnyL.one 14 (by kernel_rfl) rfl (fun K hK => ?_)
  go_simp
  refine hK _ _ (fun h => absurd rfl h) (fun hKq => ?_)
  clear hK K hKq
  try simp only [Act.put, List.setIfInBounds_toArray, List.set_cons_zero, List.set_cons_succ]
  refine AnyL.done (by kernel_rfl) ?_ _
  have g2 := G1.out.setM HC.out 19 (.int .i64 (y 19))
  clear hS0 hS1 hSc z0 G3
  generalize w6.setCell ⟨mb, 19, none⟩ (.int .i64 (y 19)) = w6' at *
  have k0 := g2.k0
  have k2 := g2.k2
  have G4 := Lib.hid g2
  clear g2 G1
  go_wp2_with fail
  refine (wk_restsNone HC.out G4.out H0.out H21.out Hb.out.1 Hb.out.2.1 Hb.out.2.2 Kh22.out (by rw [upd_ne _ _ (by decide), laidM_off (by omega), upd_same]) (cb := x 48) (by rw [upd_ne _ _ (by omega), laidM_off (by omega), upd_ne _ _ (by omega), Hg.out.cell 48 (by decide)]) (v := x 49) (by rw [upd_ne _ _ (by omega), laidM_off (by omega), upd_ne _ _ (by omega), Hg.out.cell 49 (by decide)])
    (fun j h1 h2 => ⟨x j, by rw [upd_ne _ _ (by omega), laidM_off (by omega), upd_ne _ _ (by omega), Hg.out.cell j h2]⟩) (Hg.out.range (by decide) (by rw [Khy48.out]; have := KhL.out; have := KhH.out; omega) (by decide)) (fun hwr j h1 h2 => by rw [upd_ne _ _ (by omega), laidM_off (by omega), upd_ne _ _ (by omega), Hg.out.cell j h2, Hg.out.told hwr j h2]) (by decide) KhL.out KhT.out KhH.out Khy48.out Khinc.out ⟨Hds.out, Khdc.out⟩ Hp.out Khd.out Khq.out (Hg.out.range (by decide) Khyq.out (by decide))).mono ?_
  rintro e w7 ⟨rfl, F4, g5⟩
  rw [all_told0 Hg.out Hy0.out Hz.out] at g5
  have G5 := Lib.hid g5
  clear g5 G4 k0 k2
  go_wp2_with fail
  refine (wk_fill (d := dOf y) G5.out HC.out (laidY_at (by decide)) (laidY_at (by decide)) (fun i hi => laidY_at (by omega)) (fun i hi => laidY_at (by omega)) Hb.out.2.2 (by show y 0 ≠ 3 ∧ y 0 ≠ 5; rw [Hy0.out]; decide)).mono ?_
  rintro e w8 ⟨rfl, v', g6⟩
  have G6 := Lib.hid g6
  clear g6 G5
  go_wp2
  go_end0
  refine ⟨rfl, v', F4, ?_⟩
  have := G6.out
  rw [donesA_snoc]
  skip
  exact this
end Go.Proofs.YtcppbdlmcbjmeaaGreatDoor
