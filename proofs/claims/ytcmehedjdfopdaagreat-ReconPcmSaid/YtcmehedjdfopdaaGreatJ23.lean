/-
  The walk over package recon's brush.back: samples are laid down again. Laws for Canvas.Mb: a slice literal of one struct; a struct's cells by their places.
-/
import Derived.Test.YtcmehedjdfopdaaGreatJ18
import Derived.Test.YtcmehedjdfopdaaGreatJ16
import Derived.Test.YtcmehedjdfopdaaGreatJ22
namespace Go.Proofs.YtcmehedjdfopdaaGreat
open Go.RowKit

set_option maxRecDepth 100000 in
set_option maxHeartbeats 3200000 in
theorem brush_back {w : World} {b cb mb db x yb ub vb cy cu cv wide high : Nat} {Y U V : List Int} {al cur : Value} {aft : Int} (hb : BrushAt w b cb mb db x 0) (hc : CanAt w cb yb ub vb cy cu cv wide high Y U V al cur aft) (hw : wide ≤ 60)
    (hx : x ≤ 60) (hly : Y.length ≤ 1000000) (hlu : U.length ≤ 1000000) (hlv : V.length ≤ 1000000) (hiny : ∀ k, k < 256 → spot (16 * wide) (x * 16) 0 16 k < Y.length) (hinu : ∀ k, k < 64 → spot (8 * wide) (x * 8) 0 8 k < U.length) (hinv : ∀ k, k < 64 → spot (8 * wide) (x * 8) 0 8 k < V.length)
    (v0 v1 v2 : Value) (B0 B1 B2 : List Int) (i0 : IntSlice w v0 B0) (l0 : B0.length = 256) (r0 : ∀ i, i < 256 → 0 ≤ B0.getD i 0 ∧ B0.getD i 0 ≤ 255) (i1 : IntSlice w v1 B1) (l1 : B1.length = 64) (r1 : ∀ i, i < 64 → 0 ≤ B1.getD i 0 ∧ B1.getD i 0 ≤ 255) (i2 : IntSlice w v2 B2) (l2 : B2.length = 64) (r2 : ∀ i, i < 64 → 0 ≤ B2.getD i 0 ∧ B2.getD i 0 ≤ 255)
    (a00 : Apart v0 yb) (a01 : Apart v0 ub) (a02 : Apart v0 vb) (a10 : Apart v1 yb) (a11 : Apart v1 ub) (a12 : Apart v1 vb) (a20 : Apart v2 yb) (a21 : Apart v2 ub) (a22 : Apart v2 vb) :
    Calls Tryz.prog 54 #[.pointer (some ⟨b, 0, none⟩), .agg #[v0, v1, v2]] w fun e w' => e = .returned (.tuple #[]) ∧ SmpAt w' yb (putTo (16 * wide) (x * 16) 0 16 B0 Y 256) ∧ SmpAt w' ub (putTo (8 * wide) (x * 8) 0 8 B1 U 64) ∧ SmpAt w' vb (putTo (8 * wide) (x * 8) 0 8 B2 V 64) ∧ Only [yb, ub, vb] w w' := by
  have s0 : w.cell? ⟨b, 0, none⟩ = some (.pointer (some ⟨cb, 0, none⟩)) := by rw [cells_of hb]; rfl
  have hpl := fun (wx : World) (ho : Only [] w wx) => recon_planes cb 2 (16 * wide) _ _ _ wx (by rw [cells_of (ho.heap hc.st (by simp))]; rfl) (by rw [cells_of (ho.heap hc.st (by simp))]; rfl) (by rw [cells_of (ho.heap hc.st (by simp))]; rfl) (by rw [cells_of (ho.heap hc.st (by simp))]; rfl) (by omega) ⟨_, _, _, rfl⟩ ⟨_, _, _, rfl⟩ ⟨_, _, _, rfl⟩
  have hW2 : (((16 * wide : Nat) : Int)) / 2 = ((8 * wide : Nat) : Int) := by omega
  obtain ⟨Zp, hZp⟩ : ∃ Zp, Zp = planesV ((16 * wide : Nat) : Int) (.slice (some ⟨yb, 0, none⟩) Y.length cy) (.slice (some ⟨ub, 0, none⟩) U.length cu) (.slice (some ⟨vb, 0, none⟩) V.length cv) := ⟨_, rfl⟩
  have hidx := fun w : World => planes_index ((16 * wide : Nat) : Int) (.slice (some ⟨yb, 0, none⟩) Y.length cy) (.slice (some ⟨ub, 0, none⟩) U.length cu) (.slice (some ⟨vb, 0, none⟩) V.length cv) w Tryz.underlying118 Tryz.underlying117 (by kernel_rfl)
  rw [← hZp] at hpl hidx
  rw [hW2] at hidx
  have hi0 : ∀ w, _ := fun w => (hidx w).1
  have hi1 : ∀ w, _ := fun w => (hidx w).2.1
  have hi2 : ∀ w, _ := fun w => (hidx w).2.2
  clear hidx
  obtain ⟨pw, hpw⟩ : ∃ n, n = 16 * wide := ⟨_, rfl⟩
  obtain ⟨pc, hpc⟩ : ∃ n, n = 8 * wide := ⟨_, rfl⟩
  rw [← hpw] at hi0 hiny ⊢
  rw [← hpc] at hi1 hi2 hinu hinv ⊢
  obtain ⟨ylen, hyl⟩ : ∃ n, n = Y.length := ⟨_, rfl⟩
  obtain ⟨ulen, hul⟩ : ∃ n, n = U.length := ⟨_, rfl⟩
  obtain ⟨vlen, hvl⟩ : ∃ n, n = V.length := ⟨_, rfl⟩
  rw [← hyl] at hi0
  rw [← hul] at hi1
  rw [← hvl] at hi2
  obtain ⟨XX, hXX⟩ : ∃ XX : Nat, XX = x * 16 := ⟨_, rfl⟩
  obtain ⟨XC, hXC⟩ : ∃ XC : Nat, XC = x * 8 := ⟨_, rfl⟩
  have qx : IntKind.i64.wrap ((x : Int) * 16) = (XX : Int) := by rw [show (x : Int) * 16 = (XX : Int) by omega]; exact i64n _ (by omega)
  have qc : IntKind.i64.wrap ((x : Int) * 8) = (XC : Int) := by rw [show (x : Int) * 8 = (XC : Int) by omega]; exact i64n _ (by omega)
  have q00 : IntKind.i64.wrap 0 = 0 := by decide
  have hXX2 : XX ≤ 1000 := by omega
  have hXC2 : XC ≤ 1000 := by omega
  rw [← hXX] at hiny ⊢
  rw [← hXC] at hinu hinv ⊢
  have hsy : SmpAt w yb Y := ⟨hc.ys, hc.oy⟩
  have hsu : SmpAt w ub U := ⟨hc.us, hc.ou⟩
  have hsv : SmpAt w vb V := ⟨hc.vs, hc.ov⟩
  have hyu : yb ≠ ub := hc.yu
  have hyv : yb ≠ vb := hc.yv
  have huv : ub ≠ vb := hc.uv
  have hbl := lt_of_block hb
  have hyb : yb < w.heap.size := lt_of_block hsy.sm.choose_spec
  have hub : ub < w.heap.size := lt_of_block hsu.sm.choose_spec
  have hvb : vb < w.heap.size := lt_of_block hsv.sm.choose_spec
  have by' : b ≠ yb := block_ne hb hsy.sm.choose_spec (by decide)
  have bu' : b ≠ ub := block_ne hb hsu.sm.choose_spec (by decide)
  have bv' : b ≠ vb := block_ne hb hsv.sm.choose_spec (by decide)
  have I0 := Lib.hid i0
  obtain ⟨ao0, cap0, rfl, _⟩ := i0
  have L0 := Lib.hid l0
  have R0 := Lib.hid r0
  have I1 := Lib.hid i1
  obtain ⟨ao1, cap1, rfl, _⟩ := i1
  have L1 := Lib.hid l1
  have R1 := Lib.hid r1
  have I2 := Lib.hid i2
  obtain ⟨ao2, cap2, rfl, _⟩ := i2
  have L2 := Lib.hid l2
  have R2 := Lib.hid r2
  have HP := Lib.hid hpl
  have Hb := Lib.hid hb
  have Hiny := Lib.hid hiny
  have Hinu := Lib.hid hinu
  have Hinv := Lib.hid hinv
  have Hyl := Lib.hid hyl
  have Hul := Lib.hid hul
  have Hvl := Lib.hid hvl
  have HSY := Lib.hid hsy
  have HSU := Lib.hid hsu
  have HSV := Lib.hid hsv
  have A00 := Lib.hid a00
  have A01 := Lib.hid a01
  have A02 := Lib.hid a02
  have A10 := Lib.hid a10
  have A11 := Lib.hid a11
  have A12 := Lib.hid a12
  have A20 := Lib.hid a20
  have A21 := Lib.hid a21
  have A22 := Lib.hid a22
  have hcb := lt_of_block hc.st
  clear hb hc hpl hZp hiny hinu hinv hyl hul hvl hsy hsu hsv hpw hpc hXX hXC hW2 l0 r0 l1 r1 l2 r2 a00 a01 a02 a10 a11 a12 a20 a21 a22
  obtain ⟨n0, hn0⟩ : ∃ n, n = B0.length := ⟨_, rfl⟩
  rw [← hn0]
  have N0 := Lib.hid hn0
  clear hn0
  obtain ⟨n1, hn1⟩ : ∃ n, n = B1.length := ⟨_, rfl⟩
  rw [← hn1]
  have N1 := Lib.hid hn1
  clear hn1
  obtain ⟨n2, hn2⟩ : ∃ n, n = B2.length := ⟨_, rfl⟩
  rw [← hn2]
  have N2 := Lib.hid hn2
  clear hn2
  have W0 := Lib.hid (heap_alloc_at w (.cells #[.slice ao0 n0 cap0, .slice ao1 n1 cap1, .slice ao2 n2 cap2] 129))
  have OA : Hid (Only [] w (w.alloc (.cells #[.slice ao0 n0 cap0, .slice ao1 n1 cap1, .slice ao2 n2 cap2] 129))) := Lib.hid ((Only.refl [] w).alloc _)
  go_enter Tryz.func54, Tryz.ntmps54
  go_wp2_with fail
  refine (HP.out _ OA.out).mono ?_
  rintro e w2 ⟨rfl, g1⟩
  have O1 := Lib.hid (OA.out.trans g1)
  have W1 := Lib.hid (g1.heap W0.out (by simp))
  clear g1 s0 HP OA W0
  have hrs := lt_of_block W1.out
  go_wp2
  go_loopw [13] (fun q wr => (q = .int .i64 0 ∧ Only [] w2 wr) ∨ (q = .int .i64 1 ∧ SmpAt wr yb (putTo pw XX 0 16 B0 Y 256) ∧ Only [yb] w2 wr) ∨ (q = .int .i64 2 ∧ SmpAt wr yb (putTo pw XX 0 16 B0 Y 256) ∧ SmpAt wr ub (putTo pc XC 0 8 B1 U 64) ∧ Only [yb, ub] w2 wr) ∨ (q = .int .i64 3 ∧ SmpAt wr yb (putTo pw XX 0 16 B0 Y 256) ∧ SmpAt wr ub (putTo pc XC 0 8 B1 U 64) ∧ SmpAt wr vb (putTo pc XC 0 8 B2 V 64) ∧ Only [yb, ub, vb] w2 wr)) (fun q _ => 3 - (intOf q).toNat)
  case atStart => exact .inl ⟨rfl, Only.refl _ w2⟩
  case round =>
    rcases hrel with ⟨rfl, ho⟩ | ⟨rfl, p0, ho⟩ | ⟨rfl, p0, p1, ho⟩ | ⟨rfl, p0, p1, p2, ho⟩
    · have HO := Lib.hid ho
      have OW : Hid (Only [] w wr) := Lib.hid ((O1.out.mono (by simp)).trans ho)
      have hws := OW.out.size
      have HG : Hid (SmpAt wr yb Y) := Lib.hid (HSY.out.only OW.out (by simp))
      have hI : IntSlice wr (.slice ao0 B0.length cap0) B0 := I0.out.only OW.out (fun _ _ _ _ => by simp)
      have HI := Lib.hid hI
      have c1 : wr.cell? ⟨w.heap.size, 0, none⟩ = some (.slice ao0 n0 cap0) := by rw [cells_of (ho.heap W1.out (by simp))]; rfl
      have c2 : wr.cell? ⟨b, 3, none⟩ = some (.int .i64 x) := by rw [cells_of (OW.out.heap Hb.out (by simp))]; rfl
      have c3 : wr.cell? ⟨b, 4, none⟩ = some (.int .i64 0) := by rw [cells_of (OW.out.heap Hb.out (by simp))]; rfl
      have hP := HG.out.plane (cap := cy) (pw := pw) (side := 16)
      rw [← Hyl.out] at hP
      have HP := Lib.hid hP
      have O2 := Lib.hid (HO.out.alloc (.cells #[.slice (some ⟨yb, 0, none⟩) ylen cy, .int .i64 pw, .int .i64 16] 117))
      have O3 := Lib.hid ((Only.refl [] wr).alloc (.cells #[.slice (some ⟨yb, 0, none⟩) ylen cy, .int .i64 pw, .int .i64 16] 117))
      have f1 := cell_alloc (o := (.cells #[.slice (some ⟨yb, 0, none⟩) ylen cy, .int .i64 pw, .int .i64 16] 117)) c1
      have f2 := cell_alloc (o := (.cells #[.slice (some ⟨yb, 0, none⟩) ylen cy, .int .i64 pw, .int .i64 16] 117)) c2
      have f3 := cell_alloc (o := (.cells #[.slice (some ⟨yb, 0, none⟩) ylen cy, .int .i64 pw, .int .i64 16] 117)) c3
      have hpb : wr.heap.size < (wr.alloc (.cells #[.slice (some ⟨yb, 0, none⟩) ylen cy, .int .i64 pw, .int .i64 16] 117)).heap.size := by simp
      clear hI hP ho c1 c2 c3
      go_wp2_with fail
      generalize wr.alloc (.cells #[.slice (some ⟨yb, 0, none⟩) ylen cy, .int .i64 pw, .int .i64 16] 117) = wo at *
      generalize wr.heap.size = pb at *
      have f4 : wo.cell? ⟨pb, 2, none⟩ = some (.int .i64 16) := by rw [cells_of HP.out.st]; rfl
      go_still_tail 19, (by kernel_rfl)
      change wpList _ _ _ _ _ wo.drew
      go_wp2_with fail
      have hput := plane_put (w := wo.drew) HP.out.drew XX 0 16 256 (.slice ao0 B0.length cap0) B0 (HI.out.on O3.out.drew) A00.out L0.out R0.out (by omega) (by omega) (by omega) (by omega) hly Hiny.out
      rw [← N0.out] at hput
      refine hput.mono ?_
      rintro e w6 ⟨rfl, hp6, ho6⟩
      have P6 := Lib.hid hp6.smpAt
      have O6 : Hid (Only [yb] w2 w6) := Lib.hid ((O2.out.drew.mono (by simp)).trans (ho6.mono (by simp)))
      clear hput hp6 ho6
      go_wp2
      go_roundw
      case rel => exact .inr (.inl ⟨by go_num, P6.out, O6.out⟩)
      case measure => simp [intOf] <;> omega
    · have HO := Lib.hid ho
      have OW : Hid (Only [yb] w wr) := Lib.hid ((O1.out.mono (by simp)).trans ho)
      have hws := OW.out.size
      have HG : Hid (SmpAt wr ub U) := Lib.hid (HSU.out.only OW.out (by simp; omega))
      have hI : IntSlice wr (.slice ao1 B1.length cap1) B1 := I1.out.only OW.out (fun g off c h => by simpa using A10.out _ _ _ _ h)
      have HI := Lib.hid hI
      have c1 : wr.cell? ⟨w.heap.size, 1, none⟩ = some (.slice ao1 n1 cap1) := by rw [cells_of (ho.heap W1.out (by simp; omega))]; rfl
      have c2 : wr.cell? ⟨b, 3, none⟩ = some (.int .i64 x) := by rw [cells_of (OW.out.heap Hb.out (by simp; omega))]; rfl
      have c3 : wr.cell? ⟨b, 4, none⟩ = some (.int .i64 0) := by rw [cells_of (OW.out.heap Hb.out (by simp; omega))]; rfl
      have hP := HG.out.plane (cap := cu) (pw := pc) (side := 8)
      rw [← Hul.out] at hP
      have HP := Lib.hid hP
      have Q0 := Lib.hid (p0.only ((Only.refl [] wr).alloc (.cells #[.slice (some ⟨ub, 0, none⟩) ulen cu, .int .i64 pc, .int .i64 8] 117)) (by simp))
      have O2 := Lib.hid (HO.out.alloc (.cells #[.slice (some ⟨ub, 0, none⟩) ulen cu, .int .i64 pc, .int .i64 8] 117))
      have O3 := Lib.hid ((Only.refl [] wr).alloc (.cells #[.slice (some ⟨ub, 0, none⟩) ulen cu, .int .i64 pc, .int .i64 8] 117))
      have f1 := cell_alloc (o := (.cells #[.slice (some ⟨ub, 0, none⟩) ulen cu, .int .i64 pc, .int .i64 8] 117)) c1
      have f2 := cell_alloc (o := (.cells #[.slice (some ⟨ub, 0, none⟩) ulen cu, .int .i64 pc, .int .i64 8] 117)) c2
      have f3 := cell_alloc (o := (.cells #[.slice (some ⟨ub, 0, none⟩) ulen cu, .int .i64 pc, .int .i64 8] 117)) c3
      have hpb : wr.heap.size < (wr.alloc (.cells #[.slice (some ⟨ub, 0, none⟩) ulen cu, .int .i64 pc, .int .i64 8] 117)).heap.size := by simp
      clear hI hP ho c1 c2 c3 p0
      go_wp2_with fail
      generalize wr.alloc (.cells #[.slice (some ⟨ub, 0, none⟩) ulen cu, .int .i64 pc, .int .i64 8] 117) = wo at *
      generalize wr.heap.size = pb at *
      have f4 : wo.cell? ⟨pb, 2, none⟩ = some (.int .i64 8) := by rw [cells_of HP.out.st]; rfl
      go_still_tail 19, (by kernel_rfl)
      change wpList _ _ _ _ _ wo.drew
      go_wp2_with fail
      have hput := plane_put (w := wo.drew) HP.out.drew XC 0 8 64 (.slice ao1 B1.length cap1) B1 (HI.out.on O3.out.drew) A11.out L1.out R1.out (by omega) (by omega) (by omega) (by omega) hlu Hinu.out
      rw [← N1.out] at hput
      refine hput.mono ?_
      rintro e w6 ⟨rfl, hp6, ho6⟩
      have P6 := Lib.hid hp6.smpAt
      have O6 : Hid (Only [yb, ub] w2 w6) := Lib.hid ((O2.out.drew.mono (by simp)).trans (ho6.mono (by simp)))
      have U0 := Lib.hid ((Q0.out.only (Only.refl [] wo).drew (by simp)).only ho6 (by simp; omega))
      clear hput hp6 ho6
      go_wp2
      go_roundw
      case rel => exact .inr (.inr (.inl ⟨by go_num, U0.out, P6.out, O6.out⟩))
      case measure => simp [intOf] <;> omega
    · have HO := Lib.hid ho
      have OW : Hid (Only [yb, ub] w wr) := Lib.hid ((O1.out.mono (by simp)).trans ho)
      have hws := OW.out.size
      have HG : Hid (SmpAt wr vb V) := Lib.hid (HSV.out.only OW.out (by simp; omega))
      have hI : IntSlice wr (.slice ao2 B2.length cap2) B2 := I2.out.only OW.out (fun g off c h => by simp; exact ⟨A20.out _ _ _ _ h, A21.out _ _ _ _ h⟩)
      have HI := Lib.hid hI
      have c1 : wr.cell? ⟨w.heap.size, 2, none⟩ = some (.slice ao2 n2 cap2) := by rw [cells_of (ho.heap W1.out (by simp; omega))]; rfl
      have c2 : wr.cell? ⟨b, 3, none⟩ = some (.int .i64 x) := by rw [cells_of (OW.out.heap Hb.out (by simp; omega))]; rfl
      have c3 : wr.cell? ⟨b, 4, none⟩ = some (.int .i64 0) := by rw [cells_of (OW.out.heap Hb.out (by simp; omega))]; rfl
      have hP := HG.out.plane (cap := cv) (pw := pc) (side := 8)
      rw [← Hvl.out] at hP
      have HP := Lib.hid hP
      have Q0 := Lib.hid (p0.only ((Only.refl [] wr).alloc (.cells #[.slice (some ⟨vb, 0, none⟩) vlen cv, .int .i64 pc, .int .i64 8] 117)) (by simp))
      have Q1 := Lib.hid (p1.only ((Only.refl [] wr).alloc (.cells #[.slice (some ⟨vb, 0, none⟩) vlen cv, .int .i64 pc, .int .i64 8] 117)) (by simp))
      have O2 := Lib.hid (HO.out.alloc (.cells #[.slice (some ⟨vb, 0, none⟩) vlen cv, .int .i64 pc, .int .i64 8] 117))
      have O3 := Lib.hid ((Only.refl [] wr).alloc (.cells #[.slice (some ⟨vb, 0, none⟩) vlen cv, .int .i64 pc, .int .i64 8] 117))
      have f1 := cell_alloc (o := (.cells #[.slice (some ⟨vb, 0, none⟩) vlen cv, .int .i64 pc, .int .i64 8] 117)) c1
      have f2 := cell_alloc (o := (.cells #[.slice (some ⟨vb, 0, none⟩) vlen cv, .int .i64 pc, .int .i64 8] 117)) c2
      have f3 := cell_alloc (o := (.cells #[.slice (some ⟨vb, 0, none⟩) vlen cv, .int .i64 pc, .int .i64 8] 117)) c3
      have hpb : wr.heap.size < (wr.alloc (.cells #[.slice (some ⟨vb, 0, none⟩) vlen cv, .int .i64 pc, .int .i64 8] 117)).heap.size := by simp
      clear hI hP ho c1 c2 c3 p0 p1
      go_wp2_with fail
      generalize wr.alloc (.cells #[.slice (some ⟨vb, 0, none⟩) vlen cv, .int .i64 pc, .int .i64 8] 117) = wo at *
      generalize wr.heap.size = pb at *
      have f4 : wo.cell? ⟨pb, 2, none⟩ = some (.int .i64 8) := by rw [cells_of HP.out.st]; rfl
      go_still_tail 19, (by kernel_rfl)
      change wpList _ _ _ _ _ wo.drew
      go_wp2_with fail
      have hput := plane_put (w := wo.drew) HP.out.drew XC 0 8 64 (.slice ao2 B2.length cap2) B2 (HI.out.on O3.out.drew) A22.out L2.out R2.out (by omega) (by omega) (by omega) (by omega) hlv Hinv.out
      rw [← N2.out] at hput
      refine hput.mono ?_
      rintro e w6 ⟨rfl, hp6, ho6⟩
      have P6 := Lib.hid hp6.smpAt
      have O6 : Hid (Only [yb, ub, vb] w2 w6) := Lib.hid ((O2.out.drew.mono (by simp)).trans (ho6.mono (by simp)))
      have U0 := Lib.hid ((Q0.out.only (Only.refl [] wo).drew (by simp)).only ho6 (by simp; omega))
      have U1 := Lib.hid ((Q1.out.only (Only.refl [] wo).drew (by simp)).only ho6 (by simp; omega))
      clear hput hp6 ho6
      go_wp2
      go_roundw
      case rel => exact .inr (.inr (.inr (⟨by go_num, U0.out, U1.out, P6.out, O6.out⟩)))
      case measure => simp [intOf] <;> omega
    · have H0 := Lib.hid p0
      have H1 := Lib.hid p1
      have H2 := Lib.hid p2
      have HO := Lib.hid ((O1.out.mono (by simp)).trans ho)
      clear p0 p1 p2 ho
      go_wp2
      first | go_end0 | (simp only [Exit.inBlock, Exit.then]; refine bodyPost_ret (results_none rfl _ _ _) rfl ?_) | refine bodyPost_ret (results_none rfl _ _ _) rfl ?_
      exact ⟨rfl, H0.out, H1.out, H2.out, HO.out⟩
end Go.Proofs.YtcmehedjdfopdaaGreat

namespace Go.Proofs.YtcmehedjdfopdaaGreat
open Go.RowKit

/-- What is kept of a macroblock that was drawn. -/
def elemD (sb : Nat) (kd qp : Int) (ps : List Value) : List Value := [.pointer (some ⟨sb, 0, none⟩), .int .i64 kd, .int .i64 qp, .bool false, .bool false, .bool false, .bool false, .bool false, .bool false, .bool false, .bool false, .bool false, .bool false, .bool false, .bool false, .bool false, .bool false, .bool false, .bool false] ++ ps
def nil4 : List Value := [.slice none 0 0, .slice none 0 0, .slice none 0 0, .slice none 0 0]
theorem eltD : Elt Tryz.prog 82 94 (.agg #[.pointer none, .int .i64 0, .int .i64 0, .bool false, .bool false, .bool false, .bool false, .bool false, .bool false, .bool false, .bool false, .bool false, .bool false, .bool false, .bool false, .bool false, .bool false, .bool false, .bool false, .slice none 0 0, .slice none 0 0, .slice none 0 0, .slice none 0 0]) 23 136 := ⟨Tryz.underlying82, by kernel_rfl, rfl, by decide⟩
theorem elemD_at (sb : Nat) (kd qp : Int) (ps : List Value) (k : Nat) (hk : k < 16) : (elemD sb kd qp ps)[3 + k]? = some (.bool false) := by
  unfold elemD
  rw [List.getElem?_append_left (by simp; omega)]
  obtain rfl | rfl | rfl | rfl | rfl | rfl | rfl | rfl | rfl | rfl | rfl | rfl | rfl | rfl | rfl | rfl : k = 0 ∨ k = 1 ∨ k = 2 ∨ k = 3 ∨ k = 4 ∨ k = 5 ∨ k = 6 ∨ k = 7 ∨ k = 8 ∨ k = 9 ∨ k = 10 ∨ k = 11 ∨ k = 12 ∨ k = 13 ∨ k = 14 ∨ k = 15 := by omega
  all_goals rfl

theorem wp_build1 {P : Program} {w : World} {o : Oper} {a : Act} {K : Act → World → Prop} {Q : Exit → Act → World → Prop} (t : TypeId) (x : Operand) (ho : o.op = .buildSlice t 1 #[(0, x)]) {e : TypeId} {z : Value} {size bytes : Nat} (E : Elt P t e z size bytes) (v : Value) (hx : a.eval x = v) (cells : Array Value)
    (hsz : size ≤ 1000) (hfill : Instr.fill (fun i => some (i * size, size)) ((Array.range (1 * size)).map (z.cells[· % size]!)) [(0, v)] = some cells)
    (h : K (a.put o.dst (.slice (some ⟨w.heap.size, 0, none⟩) 1 1)) (w.alloc (.cells cells e))) : o.wp P a w K Q := by
  obtain ⟨i, hi, hz, hs, hbt⟩ := info_parts E.hi
  unfold Oper.wp execOp
  have hrun : (Instr.buildSlice t 1 #[(0, v)]).run P w = .ok (.slice (some ⟨w.heap.size, 0, none⟩) 1 1) (w.alloc (.cells cells e)) := by
    have hpos := E.pos
    have hzs := E.zs
    have hfill' : Instr.fill (fun i => some (i * size, size)) ((Array.range size).map (fun x => z.cells[x % z.cells.size]!)) [(0, v)] = some cells := by simpa [hzs] using hfill
    by_cases h24 : 16777216 < size
    · exact absurd h24 (by omega)
    simp [Instr.buildSlice, run_underlying E.ht, sizeOf, typeInfo, hi, hs, zeroValue, hz, h24, show ¬ size = 0 by omega]
    simp [hfill', newRow]
  simp only [ho, List.map_toArray, List.map_cons, List.map_nil, hx, Sem.run_bind, hrun, Result.andThen_ok]
  exact h

/-- What drawing leaves: the three planes, the parts' vectors. -/
def DrawOut (R : World → List Value → Prop) (G : List Int → Prop) (sb : Nat) (kd qp : Int) (yb ub vb db : Nat) (U' V' : List Int) (wx : World) (e : Ending) (w' : World) : Prop :=
  e = .returned (.bool true) ∧ ∃ p0 p1 p2 p3, w'.heap[db]? = some (.cells (elemD sb kd qp [p0, p1, p2, p3]).toArray 94 (0, 0)) ∧ (∀ p ∈ [p0, p1, p2, p3], p.oneCell' = true) ∧ (∃ Y', G Y' ∧ SmpAt w' yb Y') ∧ SmpAt w' ub U' ∧ SmpAt w' vb V' ∧ R w' [p0, p1, p2, p3] ∧ Only [yb, ub, vb, db] wx w'
/-- What a macroblock leaves. -/
def MbOut (R : World → List Value → Prop) (G : List Int → Prop) (B cb yb ub vb cy cu cv wide high n sb : Nat) (al : Value) (kd qe qn : Int) (U' V' : List Int) (aft : Int) (D Hl Rl : List Value) (w : World) (e : Ending) (w' : World) : Prop :=
  e = .returned (.int .i64 0) ∧ ∃ p0 p1 p2 p3 ao' c' Y', G Y' ∧ CanAt w' cb yb ub vb cy cu cv wide high Y' U' V' (.slice ao' (n + 1) c') (.pointer (some ⟨sb, 0, none⟩)) aft ∧ w'.ownsRow B 94 23 (.slice ao' (n + 1) c') (n + 1) (D ++ elemD sb kd qe [p0, p1, p2, p3]) ∧
    w'.heap[sb]? = some (.cells (Hl ++ Rl ++ ([.int .i64 qn] : List Value)).toArray 89 (0, 0)) ∧ R w' [p0, p1, p2, p3] ∧ Only ([yb, ub, vb, sb, cb] ++ al.ownBlock.toList) w w'
theorem set33 (Hl Rl : List Value) (a b : Value) (h1 : Hl.length = 21) (h2 : Rl.length = 12) : (Hl ++ Rl ++ ([a] : List Value)).toArray.setIfInBounds 33 b = (Hl ++ Rl ++ ([b] : List Value)).toArray := by
  rw [List.setIfInBounds_toArray]
  congr 1
  rw [List.set_append_right _ _ (by simp; omega)]
  simp [h1, h2]
theorem own_geN {w : World} {B n size : Nat} {e : TypeId} {v : Value} {xs : List Value} (h : w.ownsRow B e size v n xs) : ∀ g, v.ownBlock = some g → B ≤ g := by
  intro g hg
  rcases h.2 with ⟨hv, _⟩ | ⟨g', cap, cur, hv, hb, _⟩
  · rw [hv] at hg; cases hg
  · rw [hv] at hg
    have : g' = g := by simpa [Value.ownBlock] using hg
    rw [← this]; exact hb
/-- Vectors stay where the blocks that change hold none. -/
def VecStable (R : World → List Value → Prop) : Prop := ∀ w1 w2 ps, R w1 ps → (∀ (k : Nat) (cs : Array Value), w1.heap[k]? = some (.cells cs 186 (0, 0)) → w2.heap[k]? = some (.cells cs 186 (0, 0))) → R w2 ps
end Go.Proofs.YtcmehedjdfopdaaGreat
