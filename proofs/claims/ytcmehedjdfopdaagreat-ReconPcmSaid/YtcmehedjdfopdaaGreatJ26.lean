/-
  The walk over package recon's draw of a picture's only macroblock, by whole modes without edges. The walk over package recon's Canvas.Mb where the slice has its macroblocks.
-/
import Derived.Test.YtcmehedjdfopdaaGreatJ25
import Derived.Test.YtcmehedjdfopdaaGreatJ23
namespace Go.Proofs.YtcmehedjdfopdaaGreat
open Go.RowKit

def R0 (_ : World) (ao : Option Addr) (n c : Nat) : Prop := ao = none ∧ n = 0 ∧ c = 0
set_option maxRecDepth 100000 in
set_option maxHeartbeats 1600000 in
theorem there_neg2 {w : World} {b cb mb db x y wide : Nat} (hb : BrushAt w b cb mb db x y) (s1 : w.cell? ⟨cb, 0, none⟩ = some (.int .i64 wide)) (x1 y1 : Int) (hw : wide ≤ 1000) (hx : x1 = -1 ∧ (y1 = 0 ∨ y1 = -1) ∨ 0 ≤ x1 ∧ x1 < wide ∧ y1 = -1) :
    Calls Tryz.prog 103 #[.pointer (some ⟨b, 0, none⟩), .int .i64 x1, .int .i64 y1] w fun e w' => e = .returned (.bool false) ∧ w = w' := by
  have s0 : w.cell? ⟨b, 0, none⟩ = some (.pointer (some ⟨cb, 0, none⟩)) := by rw [cells_of hb]; rfl
  clear hb
  rcases hx with ⟨rfl, rfl | rfl⟩ | ⟨h0, h1, rfl⟩
  all_goals
    go_enter Tryz.func103, Tryz.ntmps103
    go_wp2
    go_ret
    exact ⟨rfl, rfl⟩
theorem edges_first {w : World} {b cb mb db p g cap pw side wide : Nat} {pl : List Int} (hb : BrushAt w b cb mb db 0 0) (hc : w.cell? ⟨cb, 0, none⟩ = some (.int .i64 wide)) (hp : PlaneAt w p g cap pw side pl) (hs : side ≤ 16) (hw0 : 1 ≤ wide) (hw : wide ≤ 60) : EdgesGive w b p R0 := by
  have h1 : ThereAt w b (((0 : Nat) : Int) - 1) 0 false := fun wx hx => there_neg2 (hx.heap hb (by simp)) (hx.cell hc (by simp)) _ _ (by omega) (.inl ⟨rfl, .inl rfl⟩)
  have h2 : ThereAt w b ((0 : Nat) : Int) (-1) false := fun wx hx => there_neg2 (hx.heap hb (by simp)) (hx.cell hc (by simp)) _ _ (by omega) (.inr ⟨by omega, by omega, rfl⟩)
  have h3 : ThereAt w b (((0 : Nat) : Int) - 1) (-1) false := fun wx hx => there_neg2 (hx.heap hb (by simp)) (hx.cell hc (by simp)) _ _ (by omega) (.inl ⟨rfl, .inr rfl⟩)
  exact (edges_none hb hp (by omega) hs h1 h2 h3).mono fun e w' ⟨he, ho⟩ => ⟨none, 0, 0, he, ⟨rfl, rfl, rfl⟩, ho⟩
theorem cell0 {w : World} {cb yb ub vb cy cu cv wide high : Nat} {Y U V : List Int} {al cur : Value} {aft : Int} (hc : CanAt w cb yb ub vb cy cu cv wide high Y U V al cur aft) : w.cell? ⟨cb, 0, none⟩ = some (.int .i64 wide) := by rw [cells_of hc.st]; rfl
theorem mean_none : meanOf [] [] = 128 := rfl
theorem whole_first (wx : World) (ao : Option Addr) (n c : Nat) (h : R0 wx ao n c) : Calls Tryz.prog 85 #[.int .i64 2, .slice ao n c, .slice none 0 0, .int .i64 (-1)] wx fun e w' => ∃ v, e = .returned (.tuple #[v, .int .i64 0]) ∧ w'.ownsRow wx.heap.size 3 1 v 256 ((List.replicate 256 (128 : Int)).map (Value.int .i64)) ∧ Only [] wx w' := by
  obtain ⟨rfl, rfl, rfl⟩ := h
  have := whole_dc _ _ [] [] (-1) wx (IntSlice.nil wx) (IntSlice.nil wx) (.inl rfl) (.inl rfl) (by simp) (by simp) (by omega) (by omega)
  rw [mean_none, flatL_const] at this
  exact this
theorem chroma_first (wx : World) (ao : Option Addr) (n c : Nat) (h : R0 wx ao n c) : Calls Tryz.prog 83 #[.int .i64 0, .slice ao n c, .slice none 0 0, .int .i64 (-1)] wx fun e w' => ∃ v, e = .returned (.tuple #[v, .int .i64 0]) ∧ w'.ownsRow wx.heap.size 3 1 v 64 ((List.replicate 64 (128 : Int)).map (Value.int .i64)) ∧ Only [] wx w' := by
  obtain ⟨rfl, rfl, rfl⟩ := h
  have := chroma_dc0 _ _ (-1) wx (IntSlice.nil wx) (IntSlice.nil wx) (by omega) (by omega)
  rw [flatL_const] at this
  exact this
theorem in_one4 : ∀ k, k < 16 → ∀ j, j < 16 → spot (16 * 1) (0 * 16 + 4 * blkX k) (0 * 16 + 4 * blkY k) 4 j < 256 := by decide
/-- What a lowest coefficient makes of a grey macroblock. -/
def Lifted (d qp : Int) (Y' : List Int) : Prop := ∃ r : Int, (0 ≤ d → 0 ≤ r) ∧ (d ≤ 0 → r ≤ 0) ∧ (12 ≤ qp → 0 ≤ d → 10 * d ≤ r) ∧ Y' = List.replicate 256 (clip8 (128 + (r + 32) / 64))

theorem rep_at (n : Nat) (a : Int) (i : Nat) (h : i < n) : (List.replicate n a).getD i 0 = a := by
  rw [List.getD_eq_getElem?_getD, List.getElem?_replicate, if_pos h]; rfl
set_option maxRecDepth 100000 in
theorem draw_first {w : World} {b cb mb db yb ub vb cy cu cv sb : Nat} {al cur : Value} {aft d qp : Int} {Mc : Array Value} (hb : BrushAt w b cb mb db 0 0) (hc : CanAt w cb yb ub vb cy cu cv 1 1 (List.replicate 256 128) (List.replicate 64 128) (List.replicate 64 128) al cur aft)
    (hM : MbIs Mc 1 2 0 qp d (.slice none 0 0) z16 z28) (hmb : w.heap[mb]? = some (.cells Mc 48 (0, 0))) (hdb : w.heap[db]? = some (.cells (elemD sb 1 qp nil4).toArray 94 (0, 0))) (q0 : 0 ≤ qp) (q1 : qp ≤ 51) (d0 : -200 ≤ d) (d1 : d ≤ 200) :
    Calls Tryz.prog 29 #[.pointer (some ⟨b, 0, none⟩)] w (DrawOut (fun _ _ => True) (Lifted d qp) sb 1 qp yb ub vb db (List.replicate 64 128) (List.replicate 64 128) w) := by
  have hMA := hM.at hmb
  have hny : yb ≠ ub := hc.yu
  have hnv : yb ≠ vb := hc.yv
  have bny : b ≠ yb := block_ne hb hc.ys.choose_spec (by decide)
  have cny : cb ≠ yb := block_ne hc.st hc.ys.choose_spec (by decide)
  have mny : mb ≠ yb := block_ne hmb hc.ys.choose_spec (by decide)
  have bnu : b ≠ ub := block_ne hb hc.us.choose_spec (by decide)
  have cnu : cb ≠ ub := block_ne hc.st hc.us.choose_spec (by decide)
  have dny : db ≠ yb := block_ne hdb hc.ys.choose_spec (by decide)
  have dnu : db ≠ ub := block_ne hdb hc.us.choose_spec (by decide)
  have dnv : db ≠ vb := block_ne hdb hc.vs.choose_spec (by decide)
  have hW : ∀ wx, Only [] w wx → Calls Tryz.prog 55 #[.pointer (some ⟨b, 0, none⟩)] wx fun e w' => e = .returned (.bool true) ∧ (∃ Y', Lifted d qp Y' ∧ SmpAt w' yb Y') ∧ Only [yb] wx w' := by
    intro wx hx
    have hbx : BrushAt wx b cb mb db 0 0 := hx.heap hb (by simp)
    have hcx := hc.only hx (by simp) (by simp) (by simp) (by simp)
    have hdx := hx.heap hdb (by simp)
    refine (whole_drawn (S := List.replicate 256 128) (d := d) (qp := qp) R0 hbx hcx (by omega) (fun wy p hp ho => edges_first (ho.heap hbx (by simp)) (ho.cell (cell0 hcx) (by simp)) hp (by omega) (by omega) (by omega)) (hx.cell hMA.k18 (by simp)) (by simp) (fun i hi => by rw [rep_at _ _ i hi]; decide) (fun wy ao n c hr => whole_first wy ao n c hr)
      (hx.heap hmb (by simp)) hdx (by rw [cells_of hdx]; rfl) q0 q1 d0 d1 (range_only hMA.cf.d0 hx (by simp)) (fun k hk => range_only (hMA.cf.co k (by omega)) hx (by simp)) (by omega) (by simp) (fun k hk => by unfold spot; rw [List.length_replicate]; omega) (fun k hk j hj => by rw [List.length_replicate]; exact in_one4 k hk j hj)).mono ?_
    rintro e w' ⟨p, r, rfl, r1, r2, r3, hp, ho⟩
    rw [putTo_same 128 _ _ _ _ 256 256 256 (by omega), lumaTo_one] at hp
    exact ⟨rfl, ⟨_, ⟨r, r1, r2, r3, rfl⟩, hp.smpAt⟩, ho⟩
  refine (draw_ok16 (Y := List.replicate 256 128) (U := List.replicate 64 128) (V := List.replicate 64 128) (U' := List.replicate 64 128) (V' := List.replicate 64 128) hb hc (by omega) (by omega) (by simp) (by simp) (by simp) (fun r hr k hk => by rw [List.length_replicate]; omega) (fun r hr k hk => by rw [List.length_replicate]; omega) (fun r hr k hk => by rw [List.length_replicate]; omega) hMA.k0 (Lifted d qp) hW ?_).mono ?_
  · intro wx Y' hx hG hY
    obtain ⟨r, -, -, -, hYe⟩ := hG
    have hbx : BrushAt wx b cb mb db 0 0 := hx.heap hb (by simpa using bny)
    have hmx := hx.heap hmb (by simpa using mny)
    have hcx : CanAt wx cb yb ub vb cy cu cv 1 1 Y' (List.replicate 64 128) (List.replicate 64 128) al cur aft := by
      refine ⟨?_, hY.sm, hc.us.imp fun r h => hx.heap h (by simpa using hny.symm), hc.vs.imp fun r h => hx.heap h (by simpa using hnv.symm), hY.ok, hc.ou, hc.ov, hc.yu, hc.yv, hc.uv⟩
      rw [hYe, List.length_replicate]
      have := hx.heap hc.st (by simpa using cny)
      rw [List.length_replicate] at this
      exact this
    refine (chroma_drawn (S := List.replicate 64 128) R0 hbx hcx (by omega) (fun wy p g cp pl _ hp ho => edges_first (ho.heap hbx (by simpa using bnu)) (ho.cell (cell0 hcx) (by simpa using cnu)) hp (by omega) (by omega) (by omega)) hmx ((hM.at hmx).k19) ((hM.at hmx).k48) (by simp) (fun i hi => by rw [rep_at _ _ i hi]; decide) (fun wy ao n c hr => chroma_first wy ao n c hr) (by omega) (by simp) (by simp) (fun k hk => by unfold spot; rw [List.length_replicate]; omega) (fun k hk => by unfold spot; rw [List.length_replicate]; omega)).mono ?_
    rintro e w' ⟨rfl, su, sv, ho⟩
    rw [putTo_same 128 _ _ _ _ 64 64 64 (by omega)] at su sv
    exact ⟨rfl, su, sv, ho⟩
  · rintro e w' ⟨rfl, sy, su, sv, ho⟩
    exact ⟨rfl, _, _, _, _, ho.heap hdb (by simp; exact ⟨dny, dnu, dnv⟩), by simp [Value.oneCell'], sy, su, sv, trivial, ho.mono (by simp)⟩
end Go.Proofs.YtcmehedjdfopdaaGreat

namespace Go.Proofs.YtcmehedjdfopdaaGreat
open Go.RowKit

set_option maxRecDepth 100000 in
set_option maxHeartbeats 1600000 in
theorem mb_full {w : World} {cb yb ub vb cy cu cv wide high n c : Nat} {Y U V : List Int} {ao : Option Addr} {cur : Value} {aft : Int} (hc : CanAt w cb yb ub vb cy cu cv wide high Y U V (.slice ao n c) cur aft) (ha : aft ≤ n) (Ml : List Value) :
    Calls Tryz.prog 13 #[.pointer (some ⟨cb, 0, none⟩), .agg Ml.toArray] w fun e w' => e = .returned (.int .i64 2200) ∧ Only [] w w' := by
  have s7 : w.cell? ⟨cb, 7, none⟩ = some (.slice ao n c) := by rw [cells_of hc.st]; rfl
  have s9 : w.cell? ⟨cb, 9, none⟩ = some (.int .i64 aft) := by rw [cells_of hc.st]; rfl
  have hge : decide ((n : Int) ≥ aft) = true := by simp; omega
  have hcb := lt_of_block hc.st
  have OA : Hid (Only [] w (w.alloc (.cells Ml.toArray 48))) := Lib.hid ((Only.refl [] w).alloc _)
  clear hc
  go_enter Tryz.func13, Tryz.ntmps13
  go_wp2_with fail
  go_quiet (fail)
  go_wp2
  go_ret
  exact ⟨rfl, OA.out.drewN _⟩

end Go.Proofs.YtcmehedjdfopdaaGreat
