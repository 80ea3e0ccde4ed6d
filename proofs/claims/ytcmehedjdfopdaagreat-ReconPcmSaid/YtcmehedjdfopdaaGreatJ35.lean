/-
  The walk over package recon's brush.fours, on an even picture of one macroblock: all means; or a first mode that is refused. The walk over package recon's brush.fours, on an even picture of one macroblock: means alone; or a first mode that is refused.
-/
import Derived.Test.YtcmehedjdfopdaaGreatJ34
import Derived.Test.YtcmehedjdfopdaaGreatJ12
import Derived.Test.YtcmehedjdfopdaaGreatJ25
namespace Go.Proofs.YtcmehedjdfopdaaGreat
open Go Go.RowKit

/-- What around's test answers on a picture of one macroblock. -/
theorem has_all {w : World} {b cb mb db yb ub vb cy cu cv k : Nat} {Y U V : List Int} {al cur : Value} {aft : Int} (hb : BrushAt w b cb mb db 0 0) (hc : CanAt w cb yb ub vb cy cu cv 1 1 Y U V al cur aft) (cx cy' : Int) (hx : -1 ≤ cx ∧ cx ≤ 4) (hy : -1 ≤ cy' ∧ cy' < 4) (q : Bool) (hq : hasB k cx cy' = q) : HasF w b k cx cy' q := by
  intro wx k2 k3 hw h2 h3
  have hbx : BrushAt wx b cb mb db 0 0 := hw.heap hb (by simp)
  have hcx := hc.only hw (by simp) (by simp) (by simp) (by simp)
  have T1 : ∀ x1, x1 = -1 ∨ x1 = 0 → ThereAt wx b x1 (-1) false := fun x1 h wy hwy => there_neg (hwy.heap hbx (by simp)) (hcx.only hwy (by simp) (by simp) (by simp) (by simp)) x1 (-1) (by omega) (by omega)
  have T2 : ThereAt wx b (-1) 0 false := fun wy hwy => there_neg (hwy.heap hbx (by simp)) (hcx.only hwy (by simp) (by simp) (by simp) (by simp)) (-1) 0 (by omega) (by omega)
  have T3 : ThereAt wx b 1 (-1) false := fun wy hwy => there_out (hwy.heap hbx (by simp)) (hcx.only hwy (by simp) (by simp) (by simp) (by simp)) (by omega) 1 (by omega) (by omega)
  rw [← hq]
  by_cases hy0 : cy' = -1
  · obtain ⟨n, hn⟩ : ∃ n : Nat, cx = (n : Int) - 4 := ⟨(cx + 4).toNat, by omega⟩
    refine has_above hbx h2 h3 cx cy' n (by omega) hn hy0 ?_
    rcases (show n / 4 = 0 ∨ n / 4 = 1 ∨ n / 4 = 2 by omega) with h | h | h
    · rw [h]; exact T1 _ (by omega)
    · rw [h]; exact T1 _ (by omega)
    · rw [h]; exact T3
  · by_cases hx0 : 0 ≤ cx ∧ cx < 4
    · exact has_in hbx h2 cx cy' hx0 (by omega)
    · exact has_side hbx h2 h3 cx cy' (by omega) (by omega) T2
theorem hasB_vals : ∀ k, k < 16 → hasB k ((blkX k : Int) - 1) (blkY k) = decide (1 ≤ blkX k) ∧ hasB k ((blkX k : Int) - 1) ((blkY k : Int) - 1) = (decide (1 ≤ blkX k) && decide (1 ≤ blkY k)) ∧ hasB k (blkX k) ((blkY k : Int) - 1) = decide (1 ≤ blkY k) := by decide
theorem hasB_right : ∀ k, k < 16 → hasB k ((blkX k : Int) + 1) ((blkY k : Int) - 1) = true → 1 ≤ blkY k ∧ blkX k ≤ 2 := by decide
theorem hasB_right0 : ∀ k, k < 16 → blkX k = 0 → 1 ≤ blkY k → hasB k ((blkX k : Int) + 1) ((blkY k : Int) - 1) = true := by decide

theorem around_zero {w : World} {b cb mb db p yb ub vb cy cu cv g cap : Nat} {v : Int} {Y U V : List Int} {al cur : Value} {aft : Int} (hb : BrushAt w b cb mb db 0 0) (hc : CanAt w cb yb ub vb cy cu cv 1 1 Y U V al cur aft) (hp : PlaneAt w p g cap 16 16 (List.replicate 256 v)) :
    Calls Tryz.prog 78 #[.pointer (some ⟨b, 0, none⟩), .pointer (some ⟨p, 0, none⟩), .int .i64 (0 : Nat)] w fun e w' => e = .returned (.tuple #[.slice none 0 0, .slice none 0 0, .int .i64 (-1)]) ∧ Only [] w w' :=
  around_a (bx := 0) (by' := 0) hb hp (by omega) rfl rfl (has_all hb hc _ _ (by decide) (by decide) false (by decide)) (has_all hb hc _ _ (by decide) (by decide) false (by decide)) (has_all hb hc _ _ (by decide) (by decide) false (by decide))
theorem around_all {w : World} {b cb mb db p yb ub vb cy cu cv g cap k : Nat} {v : Int} {Y U V : List Int} {al cur : Value} {aft : Int} (hb : BrushAt w b cb mb db 0 0) (hc : CanAt w cb yb ub vb cy cu cv 1 1 Y U V al cur aft) (hp : PlaneAt w p g cap 16 16 (List.replicate 256 v)) (hv0 : 0 ≤ v) (hv1 : v ≤ 255) (hk : k < 16) :
    Calls Tryz.prog 78 #[.pointer (some ⟨b, 0, none⟩), .pointer (some ⟨p, 0, none⟩), .int .i64 k] w fun e w' => ∃ nl nt, (nl = 0 ∨ nl = 4) ∧ (nt = 0 ∨ nt = 8) ∧ (1 ≤ k → 0 < nl + nt) ∧ (k = 0 → nl = 0 ∧ nt = 0) ∧ AroundOut w v nl nt e w' := by
  have hlt := blk_lt k hk
  obtain ⟨v1, v2, v3⟩ := hasB_vals k hk
  have F1 := has_all hb hc ((blkX k : Int) - 1) (blkY k) (by omega) (by omega) _ v1
  have F2 := has_all hb hc ((blkX k : Int) - 1) ((blkY k : Int) - 1) (by omega) (by omega) _ v2
  have F3 := has_all hb hc (blkX k) ((blkY k : Int) - 1) (by omega) (by omega) _ v3
  have hz : 1 ≤ k → 1 ≤ blkX k ∨ 1 ≤ blkY k := by unfold blkX blkY; omega
  have hz0 : k = 0 → blkX k = 0 ∧ blkY k = 0 := by rintro rfl; decide
  by_cases hx : 1 ≤ blkX k <;> by_cases hy : 1 ≤ blkY k
  · have F4 := has_all (k := k) hb hc ((blkX k : Int) + 1) ((blkY k : Int) - 1) (by omega) (by omega) _ rfl
    simp only [hx, hy, decide_true, Bool.and_self] at F1 F2 F3
    cases hr : hasB k ((blkX k : Int) + 1) ((blkY k : Int) - 1) with
    | true =>
      rw [hr] at F4
      exact (around_d hb hp hk rfl rfl hx hy (hasB_right k hk hr).2 hv0 hv1 F1 F2 F3 F4).mono fun e w' h => ⟨4, 8, by omega, by omega, by omega, by omega, h⟩
    | false =>
      rw [hr] at F4
      exact (around_e hb hp hk rfl rfl hx hy hv0 hv1 F1 F2 F3 F4).mono fun e w' h => ⟨4, 8, by omega, by omega, by omega, by omega, h⟩
  · simp only [hx, hy, decide_true, decide_false, Bool.and_false] at F1 F2 F3
    exact (around_b hb hp hk rfl rfl hx F1 F2 F3).mono fun e w' h => ⟨4, 0, by omega, by omega, by omega, by omega, h⟩
  · have F4 := has_all (k := k) hb hc ((blkX k : Int) + 1) ((blkY k : Int) - 1) (by omega) (by omega) _ (hasB_right0 k hk (by omega) hy)
    simp only [hx, hy, decide_true, decide_false, Bool.false_and] at F1 F2 F3
    exact (around_c hb hp hk rfl rfl hy (by omega) F1 F2 F3 F4).mono fun e w' h => ⟨0, 8, by omega, by omega, by omega, by omega, h⟩
  · simp only [hx, hy, decide_false, Bool.false_and] at F1 F2 F3
    refine (around_a hb hp hk rfl rfl F1 F2 F3).mono fun e w' ⟨h1, h2⟩ => ⟨0, 0, by omega, by omega, fun h => (by have := hz h; omega), by omega, _, _, _, h1, IntSlice.nil _, IntSlice.nil _, by omega, h2⟩
end Go.Proofs.YtcmehedjdfopdaaGreat

namespace Go.Proofs.YtcmehedjdfopdaaGreat
open Go Go.RowKit

set_option maxRecDepth 100000 in
theorem luma_nil {w : World} {b cb mb db x y : Nat} (hb : BrushAt w b cb mb db x y) (hc : w.cell? ⟨mb, 48, none⟩ = some (.int .i64 0)) (k : Nat) (hk : k < 16) (pv : Value) :
    Calls Tryz.prog 81 #[.pointer (some ⟨b, 0, none⟩), pv, .int .i64 k, .pointer none] w fun e w' => e = .returned (.tuple #[]) ∧ w = w' := by
  have s1 : w.cell? ⟨b, 1, none⟩ = some (.pointer (some ⟨mb, 0, none⟩)) := by rw [cells_of hb]; rfl
  have q : IntKind.i64.wrap ((k : Int) / 4) = ((k / 4 : Nat) : Int) := by rw [show (k : Int) / 4 = ((k / 4 : Nat) : Int) by omega]; exact i64n _ (by omega)
  obtain ⟨a, ha⟩ : ∃ a, a = k / 4 := ⟨_, rfl⟩
  rw [← ha] at q
  have ha4 : a < 4 := by omega
  clear hb ha
  go_enter Tryz.func81, Tryz.ntmps81
  go_wp2
  refine bodyPost_ret (results_none rfl _ _ _) rfl ?_
  exact ⟨rfl, rfl⟩

/-- A list of modes: its values by their places. -/
theorem modes_index (f : Nat → Int) (k : Nat) (hk : k < 16) (w : World) : (Instr.index 36 (.agg (((List.range 16).map f).map (Value.int .i64)).toArray) (.int .i64 k)).run Tryz.prog w = .ok (.int .i64 (f k)) w := by
  have h := run_index_ints (P := Tryz.prog) 36 3 16 ((List.range 16).map f) k w Tryz.underlying36 Tryz.underlying3 (by kernel_rfl) (by simp) hk
  rw [show ((List.range 16).map f).getD k 0 = f k by simp [List.getD, List.getElem?_map, List.getElem?_range hk]] at h
  exact h
theorem mean_grey (nl nt : Nat) (h1 : nl = 0 ∨ nl = 4) (h2 : nt = 0 ∨ nt = 8) : meanOf (List.replicate nl 128) ((List.replicate nt 128).take 4) = 128 := by
  rcases h1 with rfl | rfl <;> rcases h2 with rfl | rfl <;> rfl
theorem rep_range (n : Nat) (i : Nat) (h : i < (List.replicate n (128 : Int)).length) : 0 ≤ (List.replicate n (128 : Int)).getD i 0 ∧ (List.replicate n (128 : Int)).getD i 0 ≤ 255 := by
  rw [List.length_replicate] at h
  rw [rep_at n 128 i h]
  omega

set_option maxRecDepth 100000 in
set_option maxHeartbeats 1600000 in
theorem fours_ok {w : World} {b cb mb db yb ub vb cy cu cv : Nat} {U V : List Int} {al cur : Value} {aft : Int} (f : Nat → Int) (hb : BrushAt w b cb mb db 0 0) (hc : CanAt w cb yb ub vb cy cu cv 1 1 (List.replicate 256 128) U V al cur aft)
    (hm : w.rangeAt mb 2 (((List.range 16).map f).map (Value.int .i64))) (hf : ∀ i, i < 16 → f i = 2) (hcb : w.cell? ⟨mb, 48, none⟩ = some (.int .i64 0)) (mby : mb ≠ yb) :
    Calls Tryz.prog 52 #[.pointer (some ⟨b, 0, none⟩)] w fun e w' => e = .returned (.bool true) ∧ SmpAt w' yb (List.replicate 256 128) ∧ Only [yb] w w' := by
  have s0 : w.cell? ⟨b, 0, none⟩ = some (.pointer (some ⟨cb, 0, none⟩)) := by rw [cells_of hb]; rfl
  have hpl := recon_planes cb 2 (16 * 1) _ _ _ w (by rw [cells_of hc.st]; rfl) (by rw [cells_of hc.st]; rfl) (by rw [cells_of hc.st]; rfl) (by rw [cells_of hc.st]; rfl) (by omega) ⟨_, _, _, rfl⟩ ⟨_, _, _, rfl⟩ ⟨_, _, _, rfl⟩
  obtain ⟨YY, hYY⟩ : ∃ YY, YY = List.replicate 256 (128 : Int) := ⟨_, rfl⟩
  rw [← hYY] at hc hpl ⊢
  have hyl : YY.length = 256 := by rw [hYY, List.length_replicate]
  obtain ⟨Zp, hZp⟩ : ∃ Zp, Zp = planesV ((16 * 1 : Nat) : Int) (.slice (some ⟨yb, 0, none⟩) YY.length cy) (.slice (some ⟨ub, 0, none⟩) U.length cu) (.slice (some ⟨vb, 0, none⟩) V.length cv) := ⟨_, rfl⟩
  have hidx : ∀ w : World, (Instr.index 118 (.agg Zp) (.int .i64 0)).run Tryz.prog w = .ok (.agg #[.slice (some ⟨yb, 0, none⟩) YY.length cy, .int .i64 ((16 * 1 : Nat) : Int), .int .i64 16]) w := fun w => by
    rw [hZp]
    exact (planes_index _ _ _ _ w Tryz.underlying118 Tryz.underlying117 (by kernel_rfl)).1
  rw [← hZp] at hpl
  obtain ⟨Ms, hMs⟩ : ∃ Ms, Ms = ((List.range 16).map f).map (Value.int .i64) := ⟨_, rfl⟩
  have hix : ∀ k : Nat, k < 16 → ∀ w : World, (Instr.index 36 (.agg Ms.toArray) (.int .i64 k)).run Tryz.prog w = .ok (.int .i64 2) w := fun k hk w => by
    rw [hMs, ← hf k hk]
    exact modes_index f k hk w
  have hla : (Tryz.prog.info? 36).map (·.size) = some Ms.length := by rw [hMs]; simp only [List.length_map, List.length_range]; kernel_rfl
  rw [← hMs] at hm
  have bny : b ≠ yb := block_ne hb hc.ys.choose_spec (by decide)
  have cny : cb ≠ yb := block_ne hc.st hc.ys.choose_spec (by decide)
  have HP := Lib.hid hpl
  have Hb := Lib.hid hb
  have Hc := Lib.hid hc
  have Hix := Lib.hid hix
  have Hla := Lib.hid hla
  have Hm := Lib.hid hm
  have HY := Lib.hid hYY
  have Hyl := Lib.hid hyl
  have Hcb := Lib.hid hcb
  have hcbl := lt_of_block hc.st
  have hybl := lt_of_block hc.ys.choose_spec
  clear hb hc hpl hix hla hm hZp hMs hYY hyl hcb hf
  go_enter Tryz.func52, Tryz.ntmps52
  go_wp2_with fail
  refine HP.out.mono ?_
  rintro e w1 ⟨rfl, g1⟩
  have O1 := Lib.hid g1
  have k2 : w1.cell? ⟨b, 1, none⟩ = some (.pointer (some ⟨mb, 0, none⟩)) := g1.cell (by rw [cells_of Hb.out]; rfl) (by simp)
  have m2 : w1.rangeAt mb 2 Ms := range_only Hm.out g1 (by simp)
  have M2 := Lib.hid (range_alloc (x := .cells #[.slice (some ⟨yb, 0, none⟩) YY.length cy, .int .i64 16, .int .i64 16] 117) m2)
  clear g1 s0 HP m2
  have hP2 := Hc.out.luma O1.out
  have P2 : Hid (PlaneAt (w1.alloc (.cells #[.slice (some ⟨yb, 0, none⟩) YY.length cy, .int .i64 16, .int .i64 16] 117)) w1.heap.size yb cy (16 * 1) 16 YY) := Lib.hid hP2
  have O2 := Lib.hid (O1.out.alloc (.cells #[.slice (some ⟨yb, 0, none⟩) YY.length cy, .int .i64 16, .int .i64 16] 117))
  have k3 := cell_alloc (o := .cells #[.slice (some ⟨yb, 0, none⟩) YY.length cy, .int .i64 16, .int .i64 16] 117) k2
  have hz1 := O1.out.size
  clear hP2 k2 O1
  go_wp2_with (with_reducible refine wpList_load_mid rfl _ _ rfl mb 2 rfl Ms _ M2.out Tryz.underlying36 rfl Hla.out ?_)
  go_wp2
  generalize w1.alloc (.cells #[.slice (some ⟨yb, 0, none⟩) YY.length cy, .int .i64 16, .int .i64 16] 117) = w2 at *
  generalize w1.heap.size = pb at *
  generalize Ms.toArray = Ma at *
  clear k3 M2 Hm
  go_loopw [28] (fun q wr => ∃ k : Nat, k ≤ 16 ∧ q = .int .i64 k ∧ PlaneAt wr pb yb cy (16 * 1) 16 YY ∧ Only [yb] w2 wr) (fun q _ => 16 - (intOf q).toNat)
  case atStart => exact ⟨0, by omega, rfl, P2.out, Only.refl _ w2⟩
  case round =>
    obtain ⟨k, hk, rfl, hP, ho⟩ := hrel
    by_cases hlt : k < 16
    · have O8 : Only [yb] w wr := (O2.out.mono (by simp)).trans ho
      have hB8 : BrushAt wr b cb mb db 0 0 := O8.heap Hb.out (by simpa using bny)
      have hC8 : CanAt wr cb yb ub vb cy cu cv 1 1 YY U V al cur aft := ⟨O8.heap Hc.out.st (by simpa using cny), hP.sm, Hc.out.us.imp fun r h => O8.heap h (by simpa using Hc.out.yu.symm), Hc.out.vs.imp fun r h => O8.heap h (by simpa using Hc.out.yv.symm), hP.ok, Hc.out.ou, Hc.out.ov, Hc.out.yu, Hc.out.yv, Hc.out.uv⟩
      have hcb8 := O8.cell Hcb.out (by simpa using mby)
      have hi := fun w => Hix.out k hlt w
      have har := around_all (k := k) (v := 128) hB8 (by rw [HY.out] at hC8; exact hC8) (by rw [HY.out] at hP; exact hP) (by omega) (by omega) hlt
      have HAR := Lib.hid har
      have HB8 := Lib.hid hB8
      have HCB := Lib.hid hcb8
      have HPL := Lib.hid hP
      have HO := Lib.hid ho
      have hblk := fun w => syn_block k w hlt
      have hbl := blk_lt k hlt
      obtain ⟨bx, hbx⟩ : ∃ bx, blkX k = bx := ⟨_, rfl⟩
      obtain ⟨by', hby⟩ : ∃ q, blkY k = q := ⟨_, rfl⟩
      rw [hbx, hby] at hblk hbl
      have HBK := Lib.hid hblk
      have qx : IntKind.i64.wrap (4 * (bx : Int)) = ((4 * bx : Nat) : Int) := by rw [show 4 * (bx : Int) = ((4 * bx : Nat) : Int) by omega]; exact i64n _ (by omega)
      have qy : IntKind.i64.wrap (4 * (by' : Int)) = ((4 * by' : Nat) : Int) := by rw [show 4 * (by' : Int) = ((4 * by' : Nat) : Int) by omega]; exact i64n _ (by omega)
      obtain ⟨X, hX⟩ : ∃ X : Nat, 4 * bx = X := ⟨_, rfl⟩
      obtain ⟨Y, hY⟩ : ∃ Y : Nat, 4 * by' = Y := ⟨_, rfl⟩
      rw [hX] at qx
      rw [hY] at qy
      have hX12 : X ≤ 12 := by omega
      have hY12 : Y ≤ 12 := by omega
      have qxx : IntKind.i64.wrap (X : Int) = (X : Int) := i64n _ (by omega)
      have qyy : IntKind.i64.wrap (Y : Int) = (Y : Int) := i64n _ (by omega)
      clear O8 hB8 hC8 hcb8 har hP ho hblk hbx hby hX hY hbl
      go_wp2_with fail
      refine HAR.out.mono ?_
      rintro e w3 ⟨nl, nt, hl, ht, -, -, vl, vt, co, rfl, i1, i2, hco, o3⟩
      have hfour := four_dc vl vt _ _ co w3 i1 i2 (by simpa using hl) (by simpa using ht) (rep_range nl) (rep_range nt) hco.1 hco.2
      rw [mean_grey nl nt hl ht] at hfour
      have HF := Lib.hid hfour
      have O3 := Lib.hid o3
      clear i1 i2 hco o3 hfour hl ht HAR
      go_wp2_with fail
      refine HF.out.mono ?_
      rintro e w4 ⟨v, rfl, hv, o4⟩
      have V4 := Lib.hid hv
      have O4 := Lib.hid (O3.out.trans o4)
      clear hv o4 HF O3
      go_wp2_with fail
      refine (HBK.out _).mono ?_
      rintro e w' ⟨rfl, rfl⟩
      have e3 : w4.cell? ⟨b, 3, none⟩ = some (.int .i64 0) := by rw [cells_of (O4.out.heap HB8.out (by simp))]; rfl
      have e4 : w4.cell? ⟨b, 4, none⟩ = some (.int .i64 0) := by rw [cells_of (O4.out.heap HB8.out (by simp))]; rfl
      go_wp2_with fail
      go_still_tail 17, (by kernel_rfl)
      change wpList _ _ _ _ _ w4.drew
      go_wp2_with fail
      have P4 := (HPL.out.only O4.out (by simp) (by simp)).drew
      have hput := plane_put (w := w4.drew) P4 X Y 4 16 v (List.replicate 16 128) (IntSlice.of_rows (w := w4) V4.out (by simp)) (Apart.of_own (w := w4) V4.out P4.sm.choose_spec (by decide)) (by simp) (fun i hi => by rw [rep_at _ _ i hi]; decide) (by omega) (by omega) (by omega) (by omega) (by rw [Hyl.out]; omega) (fun j hj => by rw [Hyl.out]; unfold spot; omega)
      rw [HY.out, putTo_same 128 _ _ _ _ 16 256 16 (by omega), ← HY.out] at hput
      rw [Int.zero_add, Int.zero_add]
      refine hput.mono ?_
      rintro e w5 ⟨rfl, p5, o5⟩
      have P5 := Lib.hid p5
      have O5 : Hid (Only [yb] wr w5) := Lib.hid ((O4.out.drew.mono (by simp)).trans o5)
      clear P4 p5 o5 hput V4 O4 e3 e4
      go_wp2_with fail
      refine (luma_nil (O5.out.heap HB8.out (by simpa using bny)) (O5.out.cell HCB.out (by simpa using mby)) k hlt _).mono ?_
      rintro e w' ⟨rfl, rfl⟩
      go_wp2
      go_roundw
      case rel => exact ⟨k + 1, by omega, by go_num, P5.out, HO.out.trans O5.out⟩
      case measure => simp [intOf] <;> omega
    · obtain rfl : k = 16 := by omega
      have P9 := Lib.hid hP
      have O9 : Hid (Only [yb] w wr) := Lib.hid ((O2.out.mono (by simp)).trans ho)
      clear hP ho
      go_wp2
      go_ret
      exact ⟨rfl, P9.out.smpAt, O9.out⟩
end Go.Proofs.YtcmehedjdfopdaaGreat
