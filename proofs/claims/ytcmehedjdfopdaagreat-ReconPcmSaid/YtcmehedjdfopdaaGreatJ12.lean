/-
  The walk over package recon's brush.whole: what is predicted is laid down, the lowest coefficients are added. The walk over package recon's brush.whole: what is predicted is laid down, the lowest coefficients are added.
-/
import Derived.Test.YtcmehedjdfopdaaGreatJ08
import Derived.Test.YtcmehedjdfopdaaGreatJ09
import Derived.Test.YtcmehedjdfopdaaGreatJ11
namespace Go.Proofs.YtcmehedjdfopdaaGreat
open Go.RowKit

theorem planes_index {T e : TypeId} (W : Int) (y u v : Value) (w : World) (h : Tryz.prog.underlying T = some (.array 3 e)) {fs : Array Field} (he : Tryz.prog.underlying e = some (.struct fs)) (hi : (Tryz.prog.info? e).map (·.size) = some 3) :
    (Instr.index T (.agg (planesV W y u v)) (.int .i64 0)).run Tryz.prog w = .ok (.agg #[y, .int .i64 W, .int .i64 16]) w ∧ (Instr.index T (.agg (planesV W y u v)) (.int .i64 1)).run Tryz.prog w = .ok (.agg #[u, .int .i64 (W / 2), .int .i64 8]) w ∧ (Instr.index T (.agg (planesV W y u v)) (.int .i64 2)).run Tryz.prog w = .ok (.agg #[v, .int .i64 (W / 2), .int .i64 8]) w := by
  cases hq : Tryz.prog.info? e with
  | none => simp [hq] at hi
  | some i =>
    have hs : i.size = 3 := by simpa [hq] using hi
    refine ⟨?_, ?_, ?_⟩ <;> simp [Instr.index, asIntOf, run_underlying h, sizeOf, typeInfo, hq, hs, part, isAgg, run_underlying he, planesV]
/-- What luma adds, block by block. -/
def lumaTo (pw x : Nat) (r : Int) (pl : List Int) : Nat → List Int
  | 0 => pl
  | k + 1 => addTo pw (x * 16 + 4 * blkX k) (0 * 16 + 4 * blkY k) (List.replicate 16 ((r + 32) / 64)) (lumaTo pw x r pl k) 16
theorem lumaTo_length (pw x : Nat) (r : Int) (pl : List Int) (k : Nat) : (lumaTo pw x r pl k).length = pl.length := by
  induction k with
  | zero => rfl
  | succ k ih => rw [lumaTo, addTo_length, ih]

theorem CanAt.luma {w w1 : World} {cb yb ub vb cy cu cv wide high : Nat} {Y U V : List Int} {al cur : Value} {aft : Int} (h : CanAt w cb yb ub vb cy cu cv wide high Y U V al cur aft) (ho : Only [] w w1) :
    PlaneAt (w1.alloc (.cells #[.slice (some ⟨yb, 0, none⟩) Y.length cy, .int .i64 ((16 * wide : Nat) : Int), .int .i64 16] 117)) w1.heap.size yb cy (16 * wide) 16 Y := by
  obtain ⟨r1, e1⟩ := h.ys
  exact ⟨heap_alloc_at w1 _, ⟨r1, heap_alloc_lt _ (ho.heap e1 (by simp))⟩, h.oy⟩
/-- Where intra.Whole refuses nothing is drawn. -/
def EdgesGive (w : World) (b p : Nat) (R : World → Option Addr → Nat → Nat → Prop) : Prop := Calls Tryz.prog 82 #[.pointer (some ⟨b, 0, none⟩), .pointer (some ⟨p, 0, none⟩)] w fun e w' => ∃ ao n c, e = .returned (.tuple #[.slice ao n c, .slice none 0 0, .int .i64 (-1)]) ∧ R w' ao n c ∧ Only [] w w'

set_option maxRecDepth 100000 in
set_option maxHeartbeats 1600000 in
theorem whole_refused {w : World} {b cb mb db x yb ub vb cy cu cv wide high : Nat} {Y U V : List Int} {al cur : Value} {aft : Int} {mode : Int} (R : World → Option Addr → Nat → Nat → Prop) (hb : BrushAt w b cb mb db x 0) (hc : CanAt w cb yb ub vb cy cu cv wide high Y U V al cur aft) (hw : wide ≤ 60)
    (hE : ∀ wx p, PlaneAt wx p yb cy (16 * wide) 16 Y → Only [] w wx → EdgesGive wx b p R) (hmw : w.cell? ⟨mb, 18, none⟩ = some (.int .i64 mode))
    (hW : ∀ wx ao n c, R wx ao n c → Calls Tryz.prog 85 #[.int .i64 mode, .slice ao n c, .slice none 0 0, .int .i64 (-1)] wx fun e w' => e = .returned (.tuple #[.slice none 0 0, .int .i64 1101]) ∧ Only [] wx w') :
    Calls Tryz.prog 55 #[.pointer (some ⟨b, 0, none⟩)] w fun e w' => e = .returned (.bool false) ∧ Only [] w w' := by
  have s0 : w.cell? ⟨b, 0, none⟩ = some (.pointer (some ⟨cb, 0, none⟩)) := by rw [cells_of hb]; rfl
  have hpl := recon_planes cb 2 (16 * wide) _ _ _ w (by rw [cells_of hc.st]; rfl) (by rw [cells_of hc.st]; rfl) (by rw [cells_of hc.st]; rfl) (by rw [cells_of hc.st]; rfl) (by omega) ⟨_, _, _, rfl⟩ ⟨_, _, _, rfl⟩ ⟨_, _, _, rfl⟩
  obtain ⟨Zp, hZp⟩ : ∃ Zp, Zp = planesV ((16 * wide : Nat) : Int) (.slice (some ⟨yb, 0, none⟩) Y.length cy) (.slice (some ⟨ub, 0, none⟩) U.length cu) (.slice (some ⟨vb, 0, none⟩) V.length cv) := ⟨_, rfl⟩
  have hidx : ∀ w : World, (Instr.index 118 (.agg Zp) (.int .i64 0)).run Tryz.prog w = .ok (.agg #[.slice (some ⟨yb, 0, none⟩) Y.length cy, .int .i64 ((16 * wide : Nat) : Int), .int .i64 16]) w := fun w => by
    rw [hZp]
    exact (planes_index _ _ _ _ w Tryz.underlying118 Tryz.underlying117 (by kernel_rfl)).1
  rw [← hZp] at hpl
  have HP := Lib.hid hpl
  have HE := Lib.hid hE
  have HW := Lib.hid hW
  have Hb := Lib.hid hb
  have Hc := Lib.hid hc
  obtain ⟨ylen, hyl⟩ : ∃ n, n = Y.length := ⟨_, rfl⟩
  rw [← hyl] at hidx
  obtain ⟨pw, hpw⟩ : ∃ n, n = 16 * wide := ⟨_, rfl⟩
  rw [← hpw] at hidx
  have Hyl := Lib.hid hyl
  have Hpw := Lib.hid hpw
  have hcb := lt_of_block hc.st
  clear hb hc hpl hE hW hZp hyl hpw
  go_enter Tryz.func55, Tryz.ntmps55
  go_wp2_with fail
  refine HP.out.mono ?_
  rintro e w1 ⟨rfl, g1⟩
  have O1 := Lib.hid g1
  have m1 := g1.cell hmw (by simp)
  have k1 := g1.cell s0 (by simp)
  have k2 : w1.cell? ⟨b, 1, none⟩ = some (.pointer (some ⟨mb, 0, none⟩)) := g1.cell (by rw [cells_of Hb.out]; rfl) (by simp)
  clear g1 hmw s0 HP
  go_wp2_with fail
  have hP2 := Hc.out.luma O1.out
  rw [← Hyl.out, ← Hpw.out] at hP2
  have hE2 := HE.out _ _ (by rw [← Hpw.out]; exact hP2) (O1.out.alloc _)
  refine hE2.mono ?_
  rintro e w3 ⟨ao, n, c, rfl, hR, ho3⟩
  have O3 := Lib.hid ((O1.out.alloc _).trans ho3)
  have m3 : w3.cell? ⟨mb, 18, none⟩ = some (.int .i64 mode) := ho3.cell (cell_alloc m1) (by simp)
  have k3 : w3.cell? ⟨b, 1, none⟩ = some (.pointer (some ⟨mb, 0, none⟩)) := ho3.cell (cell_alloc k2) (by simp)
  have HR := Lib.hid hR
  clear hR ho3 hP2 hE2 m1 k1 k2 HE O1
  go_wp2_with fail
  refine (HW.out _ _ _ _ HR.out).mono ?_
  rintro e w4 ⟨rfl, ho4⟩
  have O4 := Lib.hid (O3.out.trans ho4)
  clear ho4
  go_wp2
  go_ret
  exact ⟨rfl, O4.out⟩
end Go.Proofs.YtcmehedjdfopdaaGreat

namespace Go.Proofs.YtcmehedjdfopdaaGreat
open Go.RowKit

set_option maxRecDepth 100000 in
set_option maxHeartbeats 1600000 in
theorem whole_drawn {w : World} {b cb mb db x yb ub vb cy cu cv wide high : Nat} {Y U V : List Int} {al cur : Value} {aft : Int} {mode : Int} (R : World → Option Addr → Nat → Nat → Prop) (hb : BrushAt w b cb mb db x 0) (hc : CanAt w cb yb ub vb cy cu cv wide high Y U V al cur aft) (hw : wide ≤ 60)
    (hE : ∀ wx p, PlaneAt wx p yb cy (16 * wide) 16 Y → Only [] w wx → EdgesGive wx b p R) (hmw : w.cell? ⟨mb, 18, none⟩ = some (.int .i64 mode))
    (S : List Int) (hS : S.length = 256) (hS2 : ∀ i, i < 256 → 0 ≤ S.getD i 0 ∧ S.getD i 0 ≤ 255)
    (hW : ∀ wx ao n c, R wx ao n c → Calls Tryz.prog 85 #[.int .i64 mode, .slice ao n c, .slice none 0 0, .int .i64 (-1)] wx fun e w' => ∃ v, e = .returned (.tuple #[v, .int .i64 0]) ∧ w'.ownsRow wx.heap.size 3 1 v 256 (S.map (Value.int .i64)) ∧ Only [] wx w')
    {d qp : Int} {mc dcs : Array Value} (hmc : w.heap[mb]? = some (.cells mc 48 (0, 0))) (hdc : w.heap[db]? = some (.cells dcs 94 (0, 0))) (hq : w.cell? ⟨db, 2, none⟩ = some (.int .i64 qp)) (q0 : 0 ≤ qp) (q1 : qp ≤ 51) (d0 : -200 ≤ d) (d1 : d ≤ 200) (hd : w.rangeAt mb 434 ((dcL d).map (Value.int .i64))) (hm : ∀ k, k < 16 → w.rangeAt mb (50 + k * 16) z16)
    (hx : x ≤ 60) (hl : Y.length ≤ 1000000) (hin : ∀ k, k < 256 → spot (16 * wide) (x * 16) 0 16 k < Y.length) (hin4 : ∀ k, k < 16 → ∀ j, j < 16 → spot (16 * wide) (x * 16 + 4 * blkX k) (0 * 16 + 4 * blkY k) 4 j < Y.length) :
    Calls Tryz.prog 55 #[.pointer (some ⟨b, 0, none⟩)] w fun e w' => ∃ (p : Nat) (r : Int), e = .returned (.bool true) ∧ (0 ≤ d → 0 ≤ r) ∧ (d ≤ 0 → r ≤ 0) ∧ (12 ≤ qp → 0 ≤ d → 10 * d ≤ r) ∧ PlaneAt w' p yb cy (16 * wide) 16 (lumaTo (16 * wide) x r (putTo (16 * wide) (x * 16) 0 16 S Y 256) 16) ∧ Only [yb] w w' := by
  have s0 : w.cell? ⟨b, 0, none⟩ = some (.pointer (some ⟨cb, 0, none⟩)) := by rw [cells_of hb]; rfl
  have hpl := recon_planes cb 2 (16 * wide) _ _ _ w (by rw [cells_of hc.st]; rfl) (by rw [cells_of hc.st]; rfl) (by rw [cells_of hc.st]; rfl) (by rw [cells_of hc.st]; rfl) (by omega) ⟨_, _, _, rfl⟩ ⟨_, _, _, rfl⟩ ⟨_, _, _, rfl⟩
  obtain ⟨Zp, hZp⟩ : ∃ Zp, Zp = planesV ((16 * wide : Nat) : Int) (.slice (some ⟨yb, 0, none⟩) Y.length cy) (.slice (some ⟨ub, 0, none⟩) U.length cu) (.slice (some ⟨vb, 0, none⟩) V.length cv) := ⟨_, rfl⟩
  have hidx : ∀ w : World, (Instr.index 118 (.agg Zp) (.int .i64 0)).run Tryz.prog w = .ok (.agg #[.slice (some ⟨yb, 0, none⟩) Y.length cy, .int .i64 ((16 * wide : Nat) : Int), .int .i64 16]) w := fun w => by
    rw [hZp]
    exact (planes_index _ _ _ _ w Tryz.underlying118 Tryz.underlying117 (by kernel_rfl)).1
  rw [← hZp] at hpl
  have HP := Lib.hid hpl
  have hun := fun w => xf_unscan d w
  have hqd := fun w => qu_dc d qp w d0 d1 q0 q1
  obtain ⟨Ds, hDs⟩ : ∃ Ds, Ds = (dcL d).map (Value.int .i64) := ⟨_, rfl⟩
  obtain ⟨Dz, hDz⟩ : ∃ Dz, Dz = ints (dcL d) := ⟨_, rfl⟩
  have hun2 : ∀ w, Calls Tryz.prog 87 #[.agg Ds.toArray] w fun e w' => e = .returned (.agg Dz) ∧ Only [] w w' := by
    intro w
    rw [show Ds.toArray = ints (dcL d) by rw [hDs]; rfl, hDz]
    exact hun w
  rw [← hDs] at hd
  rw [← hDz] at hqd
  have hzl : (Tryz.prog.info? 36).map (·.size) = some Ds.length := by rw [hDs, List.length_map, dcL_length]; kernel_rfl
  have hua := Tryz.underlying36
  have hmb := World.block_lt_of_cell? w _ hmw
  have hdb := World.block_lt_of_cell? w _ hq
  have hbb := lt_of_block hb
  simp only at hmb hdb
  obtain ⟨yrest, hyb⟩ := hc.ys
  have hby : b ≠ yb := block_ne hb hyb (by decide)
  have hybl := lt_of_block hyb
  have mby : mb ≠ yb := block_ne hmc hyb (by decide)
  have dby : db ≠ yb := block_ne hdc hyb (by decide)
  have Hun := Lib.hid hun2
  have Hqd := Lib.hid hqd
  have HS := Lib.hid hS
  have HS2 := Lib.hid hS2
  have Hin := Lib.hid hin
  have Hin4 := Lib.hid hin4
  have Hd := Lib.hid hd
  have Hm := Lib.hid hm
  have XX : ∃ XX : Nat, XX = x * 16 := ⟨_, rfl⟩
  obtain ⟨XX, hXX⟩ := XX
  have qx : IntKind.i64.wrap ((x : Int) * 16) = (XX : Int) := by rw [show (x : Int) * 16 = (XX : Int) by omega]; exact i64n _ (by omega)
  have q00 : IntKind.i64.wrap 0 = 0 := by decide
  have hXX2 : XX ≤ 1000 := by omega
  have HXX := Lib.hid hXX
  clear hmc hdc hun hqd hun2 hDs hDz hS hS2 hin hin4 hyb hd hm hXX
  have HE := Lib.hid hE
  have HW := Lib.hid hW
  have Hb := Lib.hid hb
  have Hc := Lib.hid hc
  obtain ⟨ylen, hyl⟩ : ∃ n, n = Y.length := ⟨_, rfl⟩
  rw [← hyl] at hidx
  obtain ⟨pw, hpw⟩ : ∃ n, n = 16 * wide := ⟨_, rfl⟩
  rw [← hpw] at hidx
  have Hyl := Lib.hid hyl
  have Hpw := Lib.hid hpw
  have hcb := lt_of_block hc.st
  clear hb hc hpl hE hW hZp hyl hpw
  go_enter Tryz.func55, Tryz.ntmps55
  go_wp2_with fail
  refine HP.out.mono ?_
  rintro e w1 ⟨rfl, g1⟩
  have O1 := Lib.hid g1
  have m1 := g1.cell hmw (by simp)
  have k1 := g1.cell s0 (by simp)
  have n1 := g1.cell hq (by simp)
  have k2 : w1.cell? ⟨b, 1, none⟩ = some (.pointer (some ⟨mb, 0, none⟩)) := g1.cell (by rw [cells_of Hb.out]; rfl) (by simp)
  have Hq := Lib.hid hq
  clear g1 hmw s0 HP hq
  go_wp2_with fail
  have hP2 := Hc.out.luma O1.out
  rw [← Hyl.out, ← Hpw.out] at hP2
  have hE2 := HE.out _ _ (by rw [← Hpw.out]; exact hP2) (O1.out.alloc _)
  refine hE2.mono ?_
  rintro e w3 ⟨ao, n, c, rfl, hR, ho3⟩
  have O3 := Lib.hid ((O1.out.alloc _).trans ho3)
  have m3 : w3.cell? ⟨mb, 18, none⟩ = some (.int .i64 mode) := ho3.cell (cell_alloc m1) (by simp)
  have n3 : w3.cell? ⟨db, 2, none⟩ = some (.int .i64 qp) := ho3.cell (cell_alloc n1) (by simp)
  have P3 : Hid (PlaneAt w3 w1.heap.size yb cy (16 * wide) 16 Y) := Lib.hid (by rw [← Hpw.out]; exact hP2.only ho3 (by simp) (by simp))
  have k3 : w3.cell? ⟨b, 1, none⟩ = some (.pointer (some ⟨mb, 0, none⟩)) := ho3.cell (cell_alloc k2) (by simp)
  have HR := Lib.hid hR
  have hpp : w.heap.size ≤ w1.heap.size := O1.out.size
  generalize w1.heap.size = pb at *
  clear hR ho3 hP2 hE2 m1 k1 k2 n1 HE O1
  go_wp2_with fail
  refine (HW.out _ _ _ _ HR.out).mono ?_
  rintro e w4 ⟨v, rfl, hv, ho4⟩
  have O4 := Lib.hid (O3.out.trans ho4)
  have P4 := Lib.hid (P3.out.only ho4 (by simp) (by simp))
  have Hv := Lib.hid hv
  have n4 : w4.cell? ⟨db, 2, none⟩ = some (.int .i64 qp) := ho4.cell n3 (by simp)
  have e3 : w4.cell? ⟨b, 3, none⟩ = some (.int .i64 x) := by rw [cells_of (O4.out.heap Hb.out (by simp))]; rfl
  have e4 : w4.cell? ⟨b, 4, none⟩ = some (.int .i64 0) := by rw [cells_of (O4.out.heap Hb.out (by simp))]; rfl
  clear hv ho4 m3 k3 n3 P3 O3 HR HW
  go_wp2_with fail
  go_still_tail 11, (by kernel_rfl)
  change wpList _ _ _ _ _ w4.drew
  go_wp2_with fail
  have hput := plane_put P4.out.drew XX 0 16 256 v S (IntSlice.of_rows (w := w4) Hv.out HS.out.symm) (Apart.of_own (w := w4) Hv.out P4.out.sm.choose_spec (by decide)) HS.out HS2.out (by omega) (by omega) (by omega) (by omega) hl (by rw [HXX.out]; exact Hin.out)
  refine hput.mono ?_
  rintro e w6 ⟨rfl, hp6, ho6⟩
  have P6 := Lib.hid hp6
  have O6 : Hid (Only [yb] w w6) := Lib.hid ((O4.out.drew.mono (by simp)).trans ho6)
  clear hput hp6 ho6 Hv O4 P4 n4 e3 e4
  have s0 : w6.cell? ⟨b, 1, none⟩ = some (.pointer (some ⟨mb, 0, none⟩)) := by rw [cells_of (O6.out.heap Hb.out (by simpa using hby))]; rfl
  have s1 : w6.cell? ⟨b, 2, none⟩ = some (.pointer (some ⟨db, 0, none⟩)) := by rw [cells_of (O6.out.heap Hb.out (by simpa using hby))]; rfl
  have s2 : w6.cell? ⟨db, 2, none⟩ = some (.int .i64 qp) := O6.out.cell Hq.out (by simpa using dby)
  have s3 : w6.rangeAt mb 434 Ds := range_only Hd.out O6.out (by simpa using mby)
  have hsz6 := O6.out.size
  have hi16 : (Tryz.prog.info? 36).map (·.size) = some 16 := by kernel_rfl
  go_wp2_with fail
  go_region_held3 (fun w' => w'.cell? ⟨b, 1, none⟩ = some (.pointer (some ⟨mb, 0, none⟩)) ∧ w'.cell? ⟨b, 2, none⟩ = some (.pointer (some ⟨db, 0, none⟩)) ∧ w'.cell? ⟨db, 2, none⟩ = some (.int .i64 qp) ∧ w'.rangeAt mb 434 Ds) ((refine ⟨?_, ?_, ?_, ?_⟩ <;> (repeat (first | with_reducible assumption | (with_reducible refine cell_set ?_ (by simp; omega)) | with_reducible refine cell_alloc ?_ | with_reducible refine cell_drew ?_ | (with_reducible refine range_set ?_ (by simp; omega)) | with_reducible refine range_alloc ?_ | with_reducible refine range_drew ?_ | (with_reducible refine cell_cells ?_ (by simp only [ne_eq]; omega)) | (with_reducible refine range_cells ?_ (by omega))))))
    ((first
      | (with_reducible refine (Hun.out _).mono ?_
         rintro rr w1 ⟨rfl, g1⟩
         have O1 : Hid (Only [] w6 w1) := Lib.hid (by with_reducible first | exact (Only.refl [] w6).drew.trans g1 | exact (only_alloc_drew w6 _).trans g1)
         have hsz1 := O1.out.size
         have a0 := O1.out.cell s0 (by simp)
         have a1 := O1.out.cell s1 (by simp)
         have a2 := O1.out.cell s2 (by simp)
         have a3 := range_only s3 O1.out (by simp)
         try (have A1 : Hid (w1.heap[w6.heap.size]? = some (.cells #[.int .i64 0, .int .i64 0, .int .i64 0, .int .i64 0, .int .i64 0, .int .i64 0, .int .i64 0, .int .i64 0, .int .i64 0, .int .i64 0, .int .i64 0, .int .i64 0, .int .i64 0, .int .i64 0, .int .i64 0, .int .i64 0] 36 (0, 0))) := Lib.hid (by with_reducible exact g1.heap (heap_alloc_drew w6 _) (by simp)))
         clear g1)
      | (with_reducible refine (Hqd.out _).mono ?_
         rintro rr w2 ⟨r, rfl, r1, r2, r3, r4, r5, g2⟩
         obtain ⟨Z, hZ⟩ : ∃ Z, Z = ints (List.replicate 16 r) := ⟨_, rfl⟩
         rw [← hZ]
         have hz1 : ∀ v ∈ Z.toList, v.oneCell' = true := by rw [hZ]; exact fun v hv => ints_oneCell' (List.replicate 16 r) v (by simpa only [ints] using hv)
         have hzs : Z.toList.length = 16 := by rw [hZ]; rfl
         have hz2 : (Tryz.prog.info? 36).map (·.size) = some Z.toList.length := by rw [hzs]; exact hi16
         have hzs1 : Z.size = 16 := by rw [hZ]; rfl
         have Hzs1 := Lib.hid hzs1
         have Hzs := Lib.hid hzs
         have HZ := Lib.hid hZ
         have R1 := Lib.hid r1
         have R2 := Lib.hid r2
         have R3 := Lib.hid r3
         clear hzs hzs1 hZ r1 r2 r3
         have O12 : Hid (Only [] w1 w2) := Lib.hid (by with_reducible first | exact g2 | exact (only_alloc w1 _).trans g2 | exact (Only.refl [] w1).drew.trans g2 | exact (only_alloc_drew w1 _).trans g2)
         have O2 := Lib.hid (O1.out.trans O12.out)
         have hsz2 := O12.out.size
         have b0 := O2.out.cell s0 (by simp)
         have b1 := O2.out.cell s1 (by simp)
         have b2 := O2.out.cell s2 (by simp)
         have b3 := range_only s3 O2.out (by simp)
         have th3 : (w2.alloc (.cells #[.int .i64 0, .int .i64 0, .int .i64 0, .int .i64 0, .int .i64 0, .int .i64 0, .int .i64 0, .int .i64 0, .int .i64 0, .int .i64 0, .int .i64 0, .int .i64 0, .int .i64 0, .int .i64 0, .int .i64 0, .int .i64 0] 36)).there w2.heap.size 0 Z.toList.length := there_of (heap_alloc_at w2 _) (by rw [Hzs.out]; decide)
         try (have A2 : Hid (w2.heap[w1.heap.size]? = some (.cells #[.int .i64 0, .int .i64 0, .int .i64 0, .int .i64 0, .int .i64 0, .int .i64 0, .int .i64 0, .int .i64 0, .int .i64 0, .int .i64 0, .int .i64 0, .int .i64 0, .int .i64 0, .int .i64 0, .int .i64 0, .int .i64 0] 36 (0, 0))) := Lib.hid (by with_reducible exact g2.heap (heap_alloc_drew w1 _) (by simp))
              have th2 : w2.there w1.heap.size 0 Z.toList.length := there_of A2.out (by rw [Hzs.out]; decide))
         try (have A2 : Hid (w2.heap[w1.heap.size]? = some (.cells #[.int .i64 0, .int .i64 0, .int .i64 0, .int .i64 0, .int .i64 0, .int .i64 0, .int .i64 0, .int .i64 0, .int .i64 0, .int .i64 0, .int .i64 0, .int .i64 0, .int .i64 0, .int .i64 0, .int .i64 0, .int .i64 0] 36 (0, 0))) := Lib.hid (by with_reducible exact g2.heap (heap_alloc_at w1 _) (by simp))
              have th2 : w2.there w1.heap.size 0 Z.toList.length := there_of A2.out (by rw [Hzs.out]; decide))
         try (have A2 := Lib.hid (O12.out.heap A1.out (by simp))
              have th2 : w2.there w6.heap.size 0 Z.toList.length := there_of A2.out (by rw [Hzs.out]; decide))
         clear g2)))
  all_goals
    first
      | (have C7 : Hid ((w2.setCells w6.heap.size 0 Z.toList).heap[w6.heap.size]? = some (.cells Z 36 (0, 0))) := Lib.hid (row_over A2.out (by rw [Hzs1.out]; rfl))
         have P7 : Hid (Only [] w6 (w2.setCells w6.heap.size 0 Z.toList)) := Lib.hid (O2.out.trans' (only_setCells w6.heap.size Z.toList 0 _) (fun i hi => .inr (by simp only [List.mem_singleton] at hi; omega)))
         have hnbx : w6.heap.size ≤ w6.heap.size := by omega
         generalize w2.setCells w6.heap.size 0 Z.toList = w7 at *
         generalize hgen : w6.heap.size = nb at *)
      | (have C7 : Hid ((w2.setCells w1.heap.size 0 Z.toList).heap[w1.heap.size]? = some (.cells Z 36 (0, 0))) := Lib.hid (row_over A2.out (by rw [Hzs1.out]; rfl))
         have P7 : Hid (Only [] w6 (w2.setCells w1.heap.size 0 Z.toList)) := Lib.hid (O2.out.trans' (only_setCells w1.heap.size Z.toList 0 _) (fun i hi => .inr (by simp only [List.mem_singleton] at hi; omega)))
         have hnbx : w6.heap.size ≤ w1.heap.size := by omega
         generalize w2.setCells w1.heap.size 0 Z.toList = w7 at *
         generalize hgen : w1.heap.size = nb at *)
      | (have C7 : Hid (((w2.alloc (.cells #[.int .i64 0, .int .i64 0, .int .i64 0, .int .i64 0, .int .i64 0, .int .i64 0, .int .i64 0, .int .i64 0, .int .i64 0, .int .i64 0, .int .i64 0, .int .i64 0, .int .i64 0, .int .i64 0, .int .i64 0, .int .i64 0] 36)).setCells w2.heap.size 0 Z.toList).heap[w2.heap.size]? = some (.cells Z 36 (0, 0))) := Lib.hid (row_over (heap_alloc_at w2 _) (by rw [Hzs1.out]; rfl))
         have P7 : Hid (Only [] w6 ((w2.alloc (.cells #[.int .i64 0, .int .i64 0, .int .i64 0, .int .i64 0, .int .i64 0, .int .i64 0, .int .i64 0, .int .i64 0, .int .i64 0, .int .i64 0, .int .i64 0, .int .i64 0, .int .i64 0, .int .i64 0, .int .i64 0, .int .i64 0] 36)).setCells w2.heap.size 0 Z.toList)) := Lib.hid ((O2.out.alloc (.cells #[.int .i64 0, .int .i64 0, .int .i64 0, .int .i64 0, .int .i64 0, .int .i64 0, .int .i64 0, .int .i64 0, .int .i64 0, .int .i64 0, .int .i64 0, .int .i64 0, .int .i64 0, .int .i64 0, .int .i64 0, .int .i64 0] 36)).trans' (only_setCells w2.heap.size Z.toList 0 _) (fun i hi => .inr (by simp only [List.mem_singleton] at hi; omega)))
         have hnbx : w6.heap.size ≤ w2.heap.size := by omega
         generalize (w2.alloc (.cells #[.int .i64 0, .int .i64 0, .int .i64 0, .int .i64 0, .int .i64 0, .int .i64 0, .int .i64 0, .int .i64 0, .int .i64 0, .int .i64 0, .int .i64 0, .int .i64 0, .int .i64 0, .int .i64 0, .int .i64 0, .int .i64 0] 36)).setCells w2.heap.size 0 Z.toList = w7 at *
         generalize hgen : w2.heap.size = nb at *)
    have hnb : w6.heap.size ≤ nb := by omega
    clear s0 s1 s2 s3 a0 a1 a2 a3 b0 b1 b2 b3 th3
    try clear th1
    try clear th2
    try clear A1 A2
    have D7 : Hid (w7.heap[nb]? = some (.cells (ints (List.replicate 16 r)) 36 (0, 0))) := Lib.hid (by rw [C7.out, HZ.out])
    have O7 : Hid (Only [yb] w w7) := Lib.hid (O6.out.trans (P7.out.mono (by simp)))
    have L7 := Lib.hid (P6.out.only P7.out (by simp) (by simp))
    have nby : nb ≠ yb := by omega
    clear O1 O2 O12 hsz1 hsz2 C7 P7 Hun Hqd P6 O6 hz1 hz2
    have hl2 := hl
    go_wp2
    go_loopw [74] (fun q wr => ∃ k : Nat, k ≤ 16 ∧ q = .int .i64 k ∧ PlaneAt wr pb yb cy (16 * wide) 16 (lumaTo (16 * wide) x r (putTo (16 * wide) XX 0 16 S Y 256) k) ∧ Only [yb] w7 wr) (fun q _ => 16 - (intOf q).toNat)
    case atStart => exact ⟨0, by omega, rfl, by rw [Hpw.out] at *; exact L7.out, Only.refl _ w7⟩
    case round =>
      obtain ⟨k, hk, rfl, hP, ho⟩ := hrel
      by_cases hlt : k < 16
      · have O8 := O7.out.trans ho
        have hB8 : BrushAt wr b cb mb db x 0 := O8.heap Hb.out (by simpa using hby)
        have hcall := luma_dc (r := r) (qp := qp) hB8 hP k hlt (ho.heap D7.out (by simpa using nby)) (range_only (Hm.out k hlt) O8 (by simpa using mby)) (O8.cell Hq.out (by simpa using dby)) q0 q1 (by omega) (by omega) hx (by omega) (by rw [lumaTo_length, putTo_length]; exact hl) (by rw [lumaTo_length, putTo_length]; exact Hin4.out k hlt)
        have HL := Lib.hid hcall
        have HO := Lib.hid ho
        clear O8 hB8 hcall hP ho
        go_wp2_with fail
        refine HL.out.mono ?_
        rintro e w9 ⟨rfl, hp9, ho9⟩
        have P9 := Lib.hid hp9
        have O9 := Lib.hid (HO.out.trans ho9)
        clear hp9 ho9 HL
        go_wp2
        go_roundw
        case rel => exact ⟨k + 1, by omega, by go_num, P9.out, O9.out⟩
        case measure => simp [intOf] <;> omega
      · obtain rfl : k = 16 := by omega
        have P9 := Lib.hid hP
        have O9 := Lib.hid (O7.out.trans ho)
        clear hP ho
        go_wp2
        go_ret
        exact ⟨pb, r, rfl, R1.out, R2.out, R3.out, by rw [← HXX.out]; exact P9.out, O9.out⟩
end Go.Proofs.YtcmehedjdfopdaaGreat
