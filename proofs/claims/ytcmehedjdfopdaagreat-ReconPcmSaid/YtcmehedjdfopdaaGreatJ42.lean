/-
  The walk over package recon's brush.pcm: samples as they are. The walk over package recon's brush.draw for samples.
-/
import Derived.Test.YtcmehedjdfopdaaGreatJ23
namespace Go.Proofs.YtcmehedjdfopdaaGreat
open Go.RowKit

theorem fillTo_getD (f : Nat → Int) (n i : Nat) (h : i < n) : (fillTo f n n).getD i 0 = f i := by
  rw [fillTo_full, List.getD_eq_getElem?_getD, List.getElem?_map, List.getElem?_range h]; rfl
set_option maxRecDepth 100000 in
set_option maxHeartbeats 3200000 in
theorem brush_pcm {w : World} {b cb mb db x y yb ub vb cy cu cv wide high pb po pcap : Nat} {Y U V : List Int} {al cur : Value} {aft : Int} (hb : BrushAt w b cb mb db x y) (hc : CanAt w cb yb ub vb cy cu cv wide high Y U V al cur aft) (hw : wide ≤ 60)
    (hx : x ≤ 60) (hy : y ≤ 60) (hly : Y.length ≤ 1000000) (hlu : U.length ≤ 1000000) (hlv : V.length ≤ 1000000) (hiny : ∀ k, k < 256 → spot (16 * wide) (x * 16) (y * 16) 16 k < Y.length) (hinu : ∀ k, k < 64 → spot (8 * wide) (x * 8) (y * 8) 8 k < U.length) (hinv : ∀ k, k < 64 → spot (8 * wide) (x * 8) (y * 8) 8 k < V.length)
    (hp : w.cell? ⟨mb, 482, none⟩ = some (.slice (some ⟨pb, po, none⟩) 384 pcap)) (f : Nat → Int) (hP : ∀ i, i < 384 → w.cell? ⟨pb, po + i, none⟩ = some (.int .u8 (f i))) (hf : ∀ i, i < 384 → 0 ≤ f i ∧ f i ≤ 255) (pny : pb ≠ yb) (pnu : pb ≠ ub) (pnv : pb ≠ vb) (mny : mb ≠ yb) (mnu : mb ≠ ub) (mnv : mb ≠ vb) :
    Calls Tryz.prog 50 #[.pointer (some ⟨b, 0, none⟩)] w fun e w' => e = .returned (.tuple #[]) ∧ SmpAt w' yb (putTo (16 * wide) (x * 16) (y * 16) 16 (fillTo (fun i => f (0 + i)) 256 256) Y 256) ∧ SmpAt w' ub (putTo (8 * wide) (x * 8) (y * 8) 8 (fillTo (fun i => f (256 + i)) 64 64) U 64) ∧ SmpAt w' vb (putTo (8 * wide) (x * 8) (y * 8) 8 (fillTo (fun i => f (320 + i)) 64 64) V 64) ∧ Only [yb, ub, vb] w w' := by
  have s0 : w.cell? ⟨b, 0, none⟩ = some (.pointer (some ⟨cb, 0, none⟩)) := by rw [cells_of hb]; rfl
  have hpl := fun (wx : World) (ho : Only [] w wx) => recon_planes cb 2 (16 * wide) _ _ _ wx (by rw [cells_of (ho.heap hc.st (by simp))]; rfl) (by rw [cells_of (ho.heap hc.st (by simp))]; rfl) (by rw [cells_of (ho.heap hc.st (by simp))]; rfl) (by rw [cells_of (ho.heap hc.st (by simp))]; rfl) (by omega) ⟨_, _, _, rfl⟩ ⟨_, _, _, rfl⟩ ⟨_, _, _, rfl⟩
  have hW2 : (((16 * wide : Nat) : Int)) / 2 = ((8 * wide : Nat) : Int) := by omega
  obtain ⟨Zp, hZp⟩ : ∃ Zp, Zp = planesV ((16 * wide : Nat) : Int) (.slice (some ⟨yb, 0, none⟩) Y.length cy) (.slice (some ⟨ub, 0, none⟩) U.length cu) (.slice (some ⟨vb, 0, none⟩) V.length cv) := ⟨_, rfl⟩
  have hidx := fun w : World => planes_index ((16 * wide : Nat) : Int) (.slice (some ⟨yb, 0, none⟩) Y.length cy) (.slice (some ⟨ub, 0, none⟩) U.length cu) (.slice (some ⟨vb, 0, none⟩) V.length cv) w Tryz.underlying118 Tryz.underlying117 (by kernel_rfl)
  rw [← hZp] at hpl hidx
  rw [hW2] at hidx
  have hi0 : ∀ w, _ := fun w => (hidx w).1
  have hi1 : ∀ w, _ := fun w => (hidx w).2.1
  have hi2 : ∀ w, _ := fun w => (hidx w).2.2
  clear hidx
  obtain ⟨pw, hpw⟩ : ∃ n, n = 16 * wide := ⟨_, rfl⟩
  obtain ⟨pc, hpc⟩ : ∃ n, n = 8 * wide := ⟨_, rfl⟩
  rw [← hpw] at hi0 hiny ⊢
  rw [← hpc] at hi1 hi2 hinu hinv ⊢
  obtain ⟨ylen, hyl⟩ : ∃ n, n = Y.length := ⟨_, rfl⟩
  obtain ⟨ulen, hul⟩ : ∃ n, n = U.length := ⟨_, rfl⟩
  obtain ⟨vlen, hvl⟩ : ∃ n, n = V.length := ⟨_, rfl⟩
  rw [← hyl] at hi0
  rw [← hul] at hi1
  rw [← hvl] at hi2
  obtain ⟨XX, hXX⟩ : ∃ XX : Nat, XX = x * 16 := ⟨_, rfl⟩
  obtain ⟨XC, hXC⟩ : ∃ XC : Nat, XC = x * 8 := ⟨_, rfl⟩
  obtain ⟨YY, hYY⟩ : ∃ YY : Nat, YY = y * 16 := ⟨_, rfl⟩
  obtain ⟨YC, hYC⟩ : ∃ YC : Nat, YC = y * 8 := ⟨_, rfl⟩
  have qx : IntKind.i64.wrap ((x : Int) * 16) = (XX : Int) := by rw [show (x : Int) * 16 = (XX : Int) by omega]; exact i64n _ (by omega)
  have qc : IntKind.i64.wrap ((x : Int) * 8) = (XC : Int) := by rw [show (x : Int) * 8 = (XC : Int) by omega]; exact i64n _ (by omega)
  have qy : IntKind.i64.wrap ((y : Int) * 16) = (YY : Int) := by rw [show (y : Int) * 16 = (YY : Int) by omega]; exact i64n _ (by omega)
  have qd : IntKind.i64.wrap ((y : Int) * 8) = (YC : Int) := by rw [show (y : Int) * 8 = (YC : Int) by omega]; exact i64n _ (by omega)
  have hXX2 : XX ≤ 1000 := by omega
  have hXC2 : XC ≤ 1000 := by omega
  have hYY2 : YY ≤ 1000 := by omega
  have hYC2 : YC ≤ 1000 := by omega
  rw [← hXX, ← hYY] at hiny ⊢
  rw [← hXC, ← hYC] at hinu hinv ⊢
  have hsy : SmpAt w yb Y := ⟨hc.ys, hc.oy⟩
  have hsu : SmpAt w ub U := ⟨hc.us, hc.ou⟩
  have hsv : SmpAt w vb V := ⟨hc.vs, hc.ov⟩
  have hyu : yb ≠ ub := hc.yu
  have hyv : yb ≠ vb := hc.yv
  have huv : ub ≠ vb := hc.uv
  have hbl := lt_of_block hb
  have hyb : yb < w.heap.size := lt_of_block hsy.sm.choose_spec
  have hub : ub < w.heap.size := lt_of_block hsu.sm.choose_spec
  have hvb : vb < w.heap.size := lt_of_block hsv.sm.choose_spec
  have by' : b ≠ yb := block_ne hb hsy.sm.choose_spec (by decide)
  have bu' : b ≠ ub := block_ne hb hsu.sm.choose_spec (by decide)
  have bv' : b ≠ vb := block_ne hb hsv.sm.choose_spec (by decide)
  have HPc := Lib.hid hP
  have HF := Lib.hid hf
  have HPs := Lib.hid hp
  have HP := Lib.hid hpl
  have Hb := Lib.hid hb
  have Hiny := Lib.hid hiny
  have Hinu := Lib.hid hinu
  have Hinv := Lib.hid hinv
  have Hyl := Lib.hid hyl
  have Hul := Lib.hid hul
  have Hvl := Lib.hid hvl
  have HSY := Lib.hid hsy
  have HSU := Lib.hid hsu
  have HSV := Lib.hid hsv
  have hcb := lt_of_block hc.st
  have hmbl := World.block_lt_of_cell? w _ hp
  simp only at hmbl
  have hpbl : pb < w.heap.size := World.block_lt_of_cell? w _ (hP 0 (by omega))
  clear hb hc hpl hZp hiny hinu hinv hyl hul hvl hsy hsu hsv hpw hpc hXX hXC hYY hYC hW2 hP hf hp
  go_enter Tryz.func50, Tryz.ntmps50
  go_wp2_with fail
  refine (HP.out _ (Only.refl [] w)).mono ?_
  rintro e w2 ⟨rfl, g1⟩
  have O1 := Lib.hid g1
  clear g1 s0 HP
  go_wp2
  go_loopw [14, 2] (fun q a wr => (q = .int .i64 0 ∧ a = .int .i64 0 ∧ Only [] w2 wr) ∨ (q = .int .i64 1 ∧ a = .int .i64 256 ∧ SmpAt wr yb (putTo pw XX YY 16 (fillTo (fun i => f (0 + i)) 256 256) Y 256) ∧ Only [yb] w2 wr) ∨ (q = .int .i64 2 ∧ a = .int .i64 320 ∧ SmpAt wr yb (putTo pw XX YY 16 (fillTo (fun i => f (0 + i)) 256 256) Y 256) ∧ SmpAt wr ub (putTo pc XC YC 8 (fillTo (fun i => f (256 + i)) 64 64) U 64) ∧ Only [yb, ub] w2 wr) ∨ (q = .int .i64 3 ∧ a = .int .i64 384 ∧ SmpAt wr yb (putTo pw XX YY 16 (fillTo (fun i => f (0 + i)) 256 256) Y 256) ∧ SmpAt wr ub (putTo pc XC YC 8 (fillTo (fun i => f (256 + i)) 64 64) U 64) ∧ SmpAt wr vb (putTo pc XC YC 8 (fillTo (fun i => f (320 + i)) 64 64) V 64) ∧ Only [yb, ub, vb] w2 wr)) (fun q _ _ => 3 - (intOf q).toNat)
  case atStart => exact .inl ⟨rfl, rfl, Only.refl _ w2⟩
  case round =>
    rcases hrel with ⟨rfl, rfl, ho⟩ | ⟨rfl, rfl, p0, ho⟩ | ⟨rfl, rfl, p0, p1, ho⟩ | ⟨rfl, rfl, p0, p1, p2, ho⟩
    · have HO := Lib.hid ho
      have OW : Hid (Only [] w wr) := Lib.hid ((O1.out.mono (by simp)).trans ho)
      have hws := OW.out.size
      have HG : Hid (SmpAt wr yb Y) := Lib.hid (HSY.out.only OW.out (by simp))
      have hP := HG.out.plane (cap := cy) (pw := pw) (side := 16)
      rw [← Hyl.out] at hP
      have HP := Lib.hid hP
      have O2 := Lib.hid (HO.out.alloc (.cells #[.slice (some ⟨yb, 0, none⟩) ylen cy, .int .i64 pw, .int .i64 16] 117))
      have OW2 := Lib.hid (OW.out.alloc (.cells #[.slice (some ⟨yb, 0, none⟩) ylen cy, .int .i64 pw, .int .i64 16] 117))
      have hpb : wr.heap.size < (wr.alloc (.cells #[.slice (some ⟨yb, 0, none⟩) ylen cy, .int .i64 pw, .int .i64 16] 117)).heap.size := by simp
      have f4 : (wr.alloc (.cells #[.slice (some ⟨yb, 0, none⟩) ylen cy, .int .i64 pw, .int .i64 16] 117)).cell? ⟨wr.heap.size, 2, none⟩ = some (.int .i64 16) := HP.out.side
      have hq : (wr.alloc (.cells #[.slice (some ⟨yb, 0, none⟩) ylen cy, .int .i64 pw, .int .i64 16] 117)).heap.size = wr.heap.size + 1 := by simp
      have HQ := Lib.hid hq
      have qs : IntKind.i64.wrap (16 * 16) = 256 := by decide
      clear hP hq ho OW
      go_wp2_with (refine wpList_make1 rfl _ _ rfl elt64 rfl 256 rfl rfl (by simp) (by simp) (by decide) (by omega) ?_)
      generalize wr.alloc (.cells #[.slice (some ⟨yb, 0, none⟩) ylen cy, .int .i64 pw, .int .i64 16] 117) = wo at *
      generalize wr.heap.size = qb at *
      intro w3 hw3 ho3 hz3
      rw [ints_replicate, ← fillTo_zero (fun i => f (0 + i))] at hw3
      have W3 := Lib.hid hw3
      have O3 := Lib.hid ho3
      clear hw3 ho3 f4
      go_wp2
      go_loopw [25, 2] (fun q a wr => ∃ k : Nat, k ≤ 256 ∧ q = .int .i64 k ∧ a = .int .i64 ((0 + k : Nat) : Int) ∧ wr.heap[qb + 1]? = some (.cells (ints (fillTo (fun i => f (0 + i)) 256 k)) 3 (0, 0)) ∧ Only [] wo wr) (fun q _ _ => 256 - (intOf q).toNat)
      case atStart => exact ⟨0, Nat.zero_le _, rfl, rfl, W3.out, O3.out⟩
      case round =>
        obtain ⟨k, hk, rfl, rfl, hblk, ho⟩ := hrel
        by_cases hlt : k < 256
        · have OX := OW2.out.trans (ho.mono (by simp))
          have e1 : wr.cell? ⟨b, 1, none⟩ = some (.pointer (some ⟨mb, 0, none⟩)) := by rw [cells_of (OX.heap Hb.out (by simp))]; rfl
          have e2 := OX.cell HPs.out (by simp)
          obtain ⟨i, hi⟩ : ∃ i : Nat, i = 0 + k := ⟨_, rfl⟩
          have e3 := OX.cell (HPc.out i (by omega)) (by simp)
          obtain ⟨t, ht⟩ : ∃ t : Int, t = f i := ⟨_, rfl⟩
          have tr : 0 ≤ t ∧ t ≤ 255 := by rw [ht]; exact HF.out i (by omega)
          rw [← ht] at e3
          obtain ⟨t0, t1⟩ := tr
          have z1 := free_of hblk k
          have e4 : wr.cell? ⟨qb + 1, k, none⟩ = some (.int .i64 ((fillTo (fun i => f (0 + i)) 256 k).getD k 0)) := by rw [cells_of hblk, ints_at _ _ (by rw [fillTo_length]; exact hlt)]
          have C2 := Lib.hid (heap_set_same (i := k) (.int .i64 t) hblk)
          have O5 := Lib.hid (ho.setCell (p := ⟨qb + 1, k, none⟩) (.inr (by rw [HQ.out]; exact Nat.le_refl _)) (.int .i64 t))
          have HT : Hid (t = (fun i => f (0 + i)) k) := Lib.hid (by rw [ht, hi])
          have hil : i < 384 := by omega
          rw [← hi]
          clear OX hblk ho ht
          have HI := Lib.hid hi
          clear hi
          go_wp2
          go_roundw
          case rel => exact ⟨k + 1, by omega, by go_num, by rw [HI.out]; go_num, by have := C2.out; rw [ints_setIf, fillTo_set _ 256 k t HT.out] at this; exact this, O5.out⟩
          case measure => simp [intOf] <;> omega
        · obtain rfl : k = 256 := by omega
          have HB6 := Lib.hid hblk
          have O6 := Lib.hid (O2.out.trans (ho.mono (by simp)))
          have OW6 := OW2.out.trans (ho.mono (by simp))
          have e3 : wr.cell? ⟨b, 3, none⟩ = some (.int .i64 x) := by rw [cells_of (OW6.heap Hb.out (by simp))]; rfl
          have e4 : wr.cell? ⟨b, 4, none⟩ = some (.int .i64 y) := by rw [cells_of (OW6.heap Hb.out (by simp))]; rfl
          have HP6 := Lib.hid (HP.out.only ho (by simp) (by simp))
          have e5 : wr.cell? ⟨qb, 2, none⟩ = some (.int .i64 16) := by rw [cells_of HP6.out.st]; rfl
          clear hblk ho OW6
          go_wp2_with fail
          go_still_tail 17, (by kernel_rfl)
          change wpList _ _ _ _ _ wr.drew
          go_wp2_with fail
          have hput := plane_put (w := wr.drew) HP6.out.drew XX YY 16 256 (.slice (some ⟨qb + 1, 0, none⟩) 256 256) (fillTo (fun i => f (0 + i)) 256 256) (IntSlice.of_row (w := wr.drew) HB6.out (fillTo_length _ _ _)) (Apart.of_block (w := wr.drew) HB6.out HP6.out.sm.choose_spec (by decide)) (fillTo_length _ _ _) (fun i hi => by rw [fillTo_getD _ _ _ hi]; exact HF.out _ (by omega)) (by omega) (by omega) (by omega) (by omega) hly Hiny.out
          refine hput.mono ?_
          rintro e w6 ⟨rfl, hp6, ho6⟩
          have P6 := Lib.hid hp6.smpAt
          have O7 : Hid (Only [yb] w2 w6) := Lib.hid ((O6.out.drew.mono (by simp)).trans (ho6.mono (by simp)))
          clear hput hp6 ho6
          go_wp2
          go_roundw
          case rel => exact .inr (.inl ⟨by go_num, by go_num, P6.out, O7.out⟩)
          case measure => simp [intOf] <;> omega
    · have HO := Lib.hid ho
      have OW : Hid (Only [yb] w wr) := Lib.hid ((O1.out.mono (by simp)).trans ho)
      have hws := OW.out.size
      have HG : Hid (SmpAt wr ub U) := Lib.hid (HSU.out.only OW.out (by simp; omega))
      have hP := HG.out.plane (cap := cu) (pw := pc) (side := 8)
      rw [← Hul.out] at hP
      have HP := Lib.hid hP
      have Q0 := Lib.hid (p0.only ((Only.refl [] wr).alloc (.cells #[.slice (some ⟨ub, 0, none⟩) ulen cu, .int .i64 pc, .int .i64 8] 117)) (by simp))
      have O2 := Lib.hid (HO.out.alloc (.cells #[.slice (some ⟨ub, 0, none⟩) ulen cu, .int .i64 pc, .int .i64 8] 117))
      have OW2 := Lib.hid (OW.out.alloc (.cells #[.slice (some ⟨ub, 0, none⟩) ulen cu, .int .i64 pc, .int .i64 8] 117))
      have hpb : wr.heap.size < (wr.alloc (.cells #[.slice (some ⟨ub, 0, none⟩) ulen cu, .int .i64 pc, .int .i64 8] 117)).heap.size := by simp
      have f4 : (wr.alloc (.cells #[.slice (some ⟨ub, 0, none⟩) ulen cu, .int .i64 pc, .int .i64 8] 117)).cell? ⟨wr.heap.size, 2, none⟩ = some (.int .i64 8) := HP.out.side
      have hq : (wr.alloc (.cells #[.slice (some ⟨ub, 0, none⟩) ulen cu, .int .i64 pc, .int .i64 8] 117)).heap.size = wr.heap.size + 1 := by simp
      have HQ := Lib.hid hq
      have qs : IntKind.i64.wrap (8 * 8) = 64 := by decide
      clear hP hq ho OW p0
      go_wp2_with (refine wpList_make1 rfl _ _ rfl elt64 rfl 64 rfl rfl (by simp) (by simp) (by decide) (by omega) ?_)
      generalize wr.alloc (.cells #[.slice (some ⟨ub, 0, none⟩) ulen cu, .int .i64 pc, .int .i64 8] 117) = wo at *
      generalize wr.heap.size = qb at *
      intro w3 hw3 ho3 hz3
      rw [ints_replicate, ← fillTo_zero (fun i => f (256 + i))] at hw3
      have W3 := Lib.hid hw3
      have O3 := Lib.hid ho3
      clear hw3 ho3 f4
      go_wp2
      go_loopw [25, 2] (fun q a wr => ∃ k : Nat, k ≤ 64 ∧ q = .int .i64 k ∧ a = .int .i64 ((256 + k : Nat) : Int) ∧ wr.heap[qb + 1]? = some (.cells (ints (fillTo (fun i => f (256 + i)) 64 k)) 3 (0, 0)) ∧ Only [] wo wr) (fun q _ _ => 64 - (intOf q).toNat)
      case atStart => exact ⟨0, Nat.zero_le _, rfl, rfl, W3.out, O3.out⟩
      case round =>
        obtain ⟨k, hk, rfl, rfl, hblk, ho⟩ := hrel
        by_cases hlt : k < 64
        · have OX := OW2.out.trans (ho.mono (by simp))
          have e1 : wr.cell? ⟨b, 1, none⟩ = some (.pointer (some ⟨mb, 0, none⟩)) := by rw [cells_of (OX.heap Hb.out (by simp; omega))]; rfl
          have e2 := OX.cell HPs.out (by simp; omega)
          obtain ⟨i, hi⟩ : ∃ i : Nat, i = 256 + k := ⟨_, rfl⟩
          have e3 := OX.cell (HPc.out i (by omega)) (by simp; omega)
          obtain ⟨t, ht⟩ : ∃ t : Int, t = f i := ⟨_, rfl⟩
          have tr : 0 ≤ t ∧ t ≤ 255 := by rw [ht]; exact HF.out i (by omega)
          rw [← ht] at e3
          obtain ⟨t0, t1⟩ := tr
          have z1 := free_of hblk k
          have e4 : wr.cell? ⟨qb + 1, k, none⟩ = some (.int .i64 ((fillTo (fun i => f (256 + i)) 64 k).getD k 0)) := by rw [cells_of hblk, ints_at _ _ (by rw [fillTo_length]; exact hlt)]
          have C2 := Lib.hid (heap_set_same (i := k) (.int .i64 t) hblk)
          have O5 := Lib.hid (ho.setCell (p := ⟨qb + 1, k, none⟩) (.inr (by rw [HQ.out]; exact Nat.le_refl _)) (.int .i64 t))
          have HT : Hid (t = (fun i => f (256 + i)) k) := Lib.hid (by rw [ht, hi])
          have hil : i < 384 := by omega
          rw [← hi]
          clear OX hblk ho ht
          have HI := Lib.hid hi
          clear hi
          go_wp2
          go_roundw
          case rel => exact ⟨k + 1, by omega, by go_num, by rw [HI.out]; go_num, by have := C2.out; rw [ints_setIf, fillTo_set _ 64 k t HT.out] at this; exact this, O5.out⟩
          case measure => simp [intOf] <;> omega
        · obtain rfl : k = 64 := by omega
          have HB6 := Lib.hid hblk
          have O6 := Lib.hid (O2.out.trans (ho.mono (by simp)))
          have OW6 := OW2.out.trans (ho.mono (by simp))
          have e3 : wr.cell? ⟨b, 3, none⟩ = some (.int .i64 x) := by rw [cells_of (OW6.heap Hb.out (by simp; omega))]; rfl
          have e4 : wr.cell? ⟨b, 4, none⟩ = some (.int .i64 y) := by rw [cells_of (OW6.heap Hb.out (by simp; omega))]; rfl
          have HP6 := Lib.hid (HP.out.only ho (by simp) (by simp))
          have e5 : wr.cell? ⟨qb, 2, none⟩ = some (.int .i64 8) := by rw [cells_of HP6.out.st]; rfl
          have T0 := Lib.hid (Q0.out.only ho (by simp))
          clear hblk ho OW6
          go_wp2_with fail
          go_still_tail 17, (by kernel_rfl)
          change wpList _ _ _ _ _ wr.drew
          go_wp2_with fail
          have hput := plane_put (w := wr.drew) HP6.out.drew XC YC 8 64 (.slice (some ⟨qb + 1, 0, none⟩) 64 64) (fillTo (fun i => f (256 + i)) 64 64) (IntSlice.of_row (w := wr.drew) HB6.out (fillTo_length _ _ _)) (Apart.of_block (w := wr.drew) HB6.out HP6.out.sm.choose_spec (by decide)) (fillTo_length _ _ _) (fun i hi => by rw [fillTo_getD _ _ _ hi]; exact HF.out _ (by omega)) (by omega) (by omega) (by omega) (by omega) hlu Hinu.out
          refine hput.mono ?_
          rintro e w6 ⟨rfl, hp6, ho6⟩
          have P6 := Lib.hid hp6.smpAt
          have O7 : Hid (Only [yb, ub] w2 w6) := Lib.hid ((O6.out.drew.mono (by simp)).trans (ho6.mono (by simp)))
          have U0 := Lib.hid ((T0.out.only (Only.refl [] wr).drew (by simp)).only ho6 (by simp; omega))
          clear hput hp6 ho6
          go_wp2
          go_roundw
          case rel => exact .inr (.inr (.inl ⟨by go_num, by go_num, U0.out, P6.out, O7.out⟩))
          case measure => simp [intOf] <;> omega
    · have HO := Lib.hid ho
      have OW : Hid (Only [yb, ub] w wr) := Lib.hid ((O1.out.mono (by simp)).trans ho)
      have hws := OW.out.size
      have HG : Hid (SmpAt wr vb V) := Lib.hid (HSV.out.only OW.out (by simp; omega))
      have hP := HG.out.plane (cap := cv) (pw := pc) (side := 8)
      rw [← Hvl.out] at hP
      have HP := Lib.hid hP
      have Q0 := Lib.hid (p0.only ((Only.refl [] wr).alloc (.cells #[.slice (some ⟨vb, 0, none⟩) vlen cv, .int .i64 pc, .int .i64 8] 117)) (by simp))
      have Q1 := Lib.hid (p1.only ((Only.refl [] wr).alloc (.cells #[.slice (some ⟨vb, 0, none⟩) vlen cv, .int .i64 pc, .int .i64 8] 117)) (by simp))
      have O2 := Lib.hid (HO.out.alloc (.cells #[.slice (some ⟨vb, 0, none⟩) vlen cv, .int .i64 pc, .int .i64 8] 117))
      have OW2 := Lib.hid (OW.out.alloc (.cells #[.slice (some ⟨vb, 0, none⟩) vlen cv, .int .i64 pc, .int .i64 8] 117))
      have hpb : wr.heap.size < (wr.alloc (.cells #[.slice (some ⟨vb, 0, none⟩) vlen cv, .int .i64 pc, .int .i64 8] 117)).heap.size := by simp
      have f4 : (wr.alloc (.cells #[.slice (some ⟨vb, 0, none⟩) vlen cv, .int .i64 pc, .int .i64 8] 117)).cell? ⟨wr.heap.size, 2, none⟩ = some (.int .i64 8) := HP.out.side
      have hq : (wr.alloc (.cells #[.slice (some ⟨vb, 0, none⟩) vlen cv, .int .i64 pc, .int .i64 8] 117)).heap.size = wr.heap.size + 1 := by simp
      have HQ := Lib.hid hq
      have qs : IntKind.i64.wrap (8 * 8) = 64 := by decide
      clear hP hq ho OW p0 p1
      go_wp2_with (refine wpList_make1 rfl _ _ rfl elt64 rfl 64 rfl rfl (by simp) (by simp) (by decide) (by omega) ?_)
      generalize wr.alloc (.cells #[.slice (some ⟨vb, 0, none⟩) vlen cv, .int .i64 pc, .int .i64 8] 117) = wo at *
      generalize wr.heap.size = qb at *
      intro w3 hw3 ho3 hz3
      rw [ints_replicate, ← fillTo_zero (fun i => f (320 + i))] at hw3
      have W3 := Lib.hid hw3
      have O3 := Lib.hid ho3
      clear hw3 ho3 f4
      go_wp2
      go_loopw [25, 2] (fun q a wr => ∃ k : Nat, k ≤ 64 ∧ q = .int .i64 k ∧ a = .int .i64 ((320 + k : Nat) : Int) ∧ wr.heap[qb + 1]? = some (.cells (ints (fillTo (fun i => f (320 + i)) 64 k)) 3 (0, 0)) ∧ Only [] wo wr) (fun q _ _ => 64 - (intOf q).toNat)
      case atStart => exact ⟨0, Nat.zero_le _, rfl, rfl, W3.out, O3.out⟩
      case round =>
        obtain ⟨k, hk, rfl, rfl, hblk, ho⟩ := hrel
        by_cases hlt : k < 64
        · have OX := OW2.out.trans (ho.mono (by simp))
          have e1 : wr.cell? ⟨b, 1, none⟩ = some (.pointer (some ⟨mb, 0, none⟩)) := by rw [cells_of (OX.heap Hb.out (by simp; omega))]; rfl
          have e2 := OX.cell HPs.out (by simp; omega)
          obtain ⟨i, hi⟩ : ∃ i : Nat, i = 320 + k := ⟨_, rfl⟩
          have e3 := OX.cell (HPc.out i (by omega)) (by simp; omega)
          obtain ⟨t, ht⟩ : ∃ t : Int, t = f i := ⟨_, rfl⟩
          have tr : 0 ≤ t ∧ t ≤ 255 := by rw [ht]; exact HF.out i (by omega)
          rw [← ht] at e3
          obtain ⟨t0, t1⟩ := tr
          have z1 := free_of hblk k
          have e4 : wr.cell? ⟨qb + 1, k, none⟩ = some (.int .i64 ((fillTo (fun i => f (320 + i)) 64 k).getD k 0)) := by rw [cells_of hblk, ints_at _ _ (by rw [fillTo_length]; exact hlt)]
          have C2 := Lib.hid (heap_set_same (i := k) (.int .i64 t) hblk)
          have O5 := Lib.hid (ho.setCell (p := ⟨qb + 1, k, none⟩) (.inr (by rw [HQ.out]; exact Nat.le_refl _)) (.int .i64 t))
          have HT : Hid (t = (fun i => f (320 + i)) k) := Lib.hid (by rw [ht, hi])
          have hil : i < 384 := by omega
          rw [← hi]
          clear OX hblk ho ht
          have HI := Lib.hid hi
          clear hi
          go_wp2
          go_roundw
          case rel => exact ⟨k + 1, by omega, by go_num, by rw [HI.out]; go_num, by have := C2.out; rw [ints_setIf, fillTo_set _ 64 k t HT.out] at this; exact this, O5.out⟩
          case measure => simp [intOf] <;> omega
        · obtain rfl : k = 64 := by omega
          have HB6 := Lib.hid hblk
          have O6 := Lib.hid (O2.out.trans (ho.mono (by simp)))
          have OW6 := OW2.out.trans (ho.mono (by simp))
          have e3 : wr.cell? ⟨b, 3, none⟩ = some (.int .i64 x) := by rw [cells_of (OW6.heap Hb.out (by simp; omega))]; rfl
          have e4 : wr.cell? ⟨b, 4, none⟩ = some (.int .i64 y) := by rw [cells_of (OW6.heap Hb.out (by simp; omega))]; rfl
          have HP6 := Lib.hid (HP.out.only ho (by simp) (by simp))
          have e5 : wr.cell? ⟨qb, 2, none⟩ = some (.int .i64 8) := by rw [cells_of HP6.out.st]; rfl
          have T0 := Lib.hid (Q0.out.only ho (by simp))
          have T1 := Lib.hid (Q1.out.only ho (by simp))
          clear hblk ho OW6
          go_wp2_with fail
          go_still_tail 17, (by kernel_rfl)
          change wpList _ _ _ _ _ wr.drew
          go_wp2_with fail
          have hput := plane_put (w := wr.drew) HP6.out.drew XC YC 8 64 (.slice (some ⟨qb + 1, 0, none⟩) 64 64) (fillTo (fun i => f (320 + i)) 64 64) (IntSlice.of_row (w := wr.drew) HB6.out (fillTo_length _ _ _)) (Apart.of_block (w := wr.drew) HB6.out HP6.out.sm.choose_spec (by decide)) (fillTo_length _ _ _) (fun i hi => by rw [fillTo_getD _ _ _ hi]; exact HF.out _ (by omega)) (by omega) (by omega) (by omega) (by omega) hlv Hinv.out
          refine hput.mono ?_
          rintro e w6 ⟨rfl, hp6, ho6⟩
          have P6 := Lib.hid hp6.smpAt
          have O7 : Hid (Only [yb, ub, vb] w2 w6) := Lib.hid ((O6.out.drew.mono (by simp)).trans (ho6.mono (by simp)))
          have U0 := Lib.hid ((T0.out.only (Only.refl [] wr).drew (by simp)).only ho6 (by simp; omega))
          have U1 := Lib.hid ((T1.out.only (Only.refl [] wr).drew (by simp)).only ho6 (by simp; omega))
          clear hput hp6 ho6
          go_wp2
          go_roundw
          case rel => exact .inr (.inr (.inr (⟨by go_num, by go_num, U0.out, U1.out, P6.out, O7.out⟩)))
          case measure => simp [intOf] <;> omega
    · have H0 := Lib.hid p0
      have H1 := Lib.hid p1
      have H2 := Lib.hid p2
      have HO := Lib.hid ((O1.out.mono (by simp)).trans ho)
      clear p0 p1 p2 ho
      go_wp2
      first | go_end0 | (simp only [Exit.inBlock, Exit.then]; refine bodyPost_ret (results_none rfl _ _ _) rfl ?_) | refine bodyPost_ret (results_none rfl _ _ _) rfl ?_
      exact ⟨rfl, H0.out, H1.out, H2.out, HO.out⟩
end Go.Proofs.YtcmehedjdfopdaaGreat

namespace Go.Proofs.YtcmehedjdfopdaaGreat
open Go.RowKit

theorem draw_pcm {w : World} {b mb db yb ub vb : Nat} {cb x y : Nat} {Y' U' V' : List Int} (hb : BrushAt w b cb mb db x y) (hk : w.cell? ⟨mb, 0, none⟩ = some (.int .i64 2))
    (hP : Calls Tryz.prog 50 #[.pointer (some ⟨b, 0, none⟩)] w fun e w' => e = .returned (.tuple #[]) ∧ SmpAt w' yb Y' ∧ SmpAt w' ub U' ∧ SmpAt w' vb V' ∧ Only [yb, ub, vb] w w') :
    Calls Tryz.prog 29 #[.pointer (some ⟨b, 0, none⟩)] w fun e w' => e = .returned (.bool true) ∧ SmpAt w' yb Y' ∧ SmpAt w' ub U' ∧ SmpAt w' vb V' ∧ Only [yb, ub, vb] w w' := by
  have s1 : w.cell? ⟨b, 1, none⟩ = some (.pointer (some ⟨mb, 0, none⟩)) := by rw [cells_of hb]; rfl
  have HP := Lib.hid hP
  clear hb hP
  go_enter Tryz.func29, Tryz.ntmps29
  go_wp2_with fail
  refine HP.out.mono ?_
  rintro e w1 ⟨rfl, sy, su, sv, o1⟩
  have SY := Lib.hid sy
  have SU := Lib.hid su
  have SV := Lib.hid sv
  have O1 := Lib.hid o1
  clear sy su sv o1
  go_wp2
  go_ret
  exact ⟨rfl, SY.out, SU.out, SV.out, O1.out⟩
end Go.Proofs.YtcmehedjdfopdaaGreat
