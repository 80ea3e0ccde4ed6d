/-
  The walk over package recon's brush.draw for whole modes and for blocks.
-/
import Derived.Test.YtcmehedjdfopdaaGreatJ23
namespace Go.Proofs.YtcmehedjdfopdaaGreat
open Go.RowKit

theorem keepTo_getD (pl : List Int) (pw X side : Nat) (hs : 0 < side) : ∀ n k, k < n * side → (keepTo pl pw X side n).getD k 0 = pl.getD (spot pw X 0 side k) 0 := by
  intro n
  induction n with
  | zero => intro k hk; simp at hk
  | succ n ih =>
    intro k hk
    rw [keepTo, List.getD_eq_getElem?_getD]
    by_cases h : k < n * side
    · rw [List.getElem?_append_left (by rw [keepTo_length]; exact h), ← List.getD_eq_getElem?_getD]
      exact ih k h
    · have hj : k - n * side < side := by rw [Nat.succ_mul] at hk; omega
      rw [List.getElem?_append_right (by rw [keepTo_length]; omega), keepTo_length]
      unfold getL
      rw [List.getElem?_map, List.getElem?_range hj]
      have hq : k / side = n := by
        rw [Nat.div_eq_iff hs]
        constructor
        · omega
        · rw [Nat.succ_mul] at hk; omega
      have hr : k % side = k - n * side := by
        have := Nat.div_add_mod k side
        rw [hq, Nat.mul_comm] at this
        omega
      simp only [Option.map_some, Option.getD_some]
      unfold spot
      rw [hq, hr]
      simp
theorem putTo_kept (pl : List Int) (pw X side : Nat) (hs : 0 < side) : ∀ k, k ≤ side * side → putTo pw X 0 side (keepTo pl pw X side side) pl k = pl := by
  intro k
  induction k with
  | zero => intro _; rfl
  | succ k ih =>
    intro hk
    rw [putTo, ih (by omega), keepTo_getD pl pw X side hs side k (by omega), set_getD]
theorem keepTo_ok {pl : List Int} (h : okPl pl) (pw X side : Nat) (hs : 0 < side) (n : Nat) : ∀ i, i < n * side → 0 ≤ (keepTo pl pw X side n).getD i 0 ∧ (keepTo pl pw X side n).getD i 0 ≤ 255 := fun i hi => by
  rw [keepTo_getD pl pw X side hs n i hi]; exact h _
theorem in_spot {pw X side L : Nat} (hs : 0 < side) (h : ∀ r, r < side → ∀ k, k < side → (r + k * 0) * pw + X + k * 1 < L) : ∀ k, k < side * side → spot pw X 0 side k < L := fun k hk => by
  have := h (k / side) (by rw [Nat.div_lt_iff_lt_mul hs]; exact hk) (k % side) (Nat.mod_lt _ hs)
  unfold spot
  simpa using this

set_option maxRecDepth 100000 in
set_option maxHeartbeats 1600000 in
theorem draw_ok16 {w : World} {b cb mb db x yb ub vb cy cu cv wide high : Nat} {Y U V U' V' : List Int} {al cur : Value} {aft : Int} (hb : BrushAt w b cb mb db x 0) (hc : CanAt w cb yb ub vb cy cu cv wide high Y U V al cur aft) (hw : wide ≤ 60)
    (hx : x ≤ 60) (hly : Y.length ≤ 1000000) (hlu : U.length ≤ 1000000) (hlv : V.length ≤ 1000000) (hiny : ∀ r, r < 16 → ∀ k, k < 16 → (r + k * 0) * (16 * wide) + x * 16 + k * 1 < Y.length) (hinu : ∀ r, r < 8 → ∀ k, k < 8 → (r + k * 0) * (8 * wide) + x * 8 + k * 1 < U.length) (hinv : ∀ r, r < 8 → ∀ k, k < 8 → (r + k * 0) * (8 * wide) + x * 8 + k * 1 < V.length)
    (hk : w.cell? ⟨mb, 0, none⟩ = some (.int .i64 1)) (G : List Int → Prop)
    (hW : ∀ wx, Only [] w wx → Calls Tryz.prog 55 #[.pointer (some ⟨b, 0, none⟩)] wx fun e w' => e = .returned (.bool true) ∧ (∃ Y', G Y' ∧ SmpAt w' yb Y') ∧ Only [yb] wx w')
    (hCh : ∀ wx Y', Only [yb] w wx → G Y' → SmpAt wx yb Y' → Calls Tryz.prog 53 #[.pointer (some ⟨b, 0, none⟩)] wx fun e w' => e = .returned (.bool true) ∧ SmpAt w' ub U' ∧ SmpAt w' vb V' ∧ Only [ub, vb] wx w') :
    Calls Tryz.prog 29 #[.pointer (some ⟨b, 0, none⟩)] w fun e w' => e = .returned (.bool true) ∧ (∃ Y', G Y' ∧ SmpAt w' yb Y') ∧ SmpAt w' ub U' ∧ SmpAt w' vb V' ∧ Only [yb, ub, vb] w w' := by
  have s1 : w.cell? ⟨b, 1, none⟩ = some (.pointer (some ⟨mb, 0, none⟩)) := by rw [cells_of hb]; rfl
  have hkp := brush_keep hb hc hw hx hly hlu hlv hiny hinu hinv
  have HB := Lib.hid hb
  have HC := Lib.hid hc
  have HKP := Lib.hid hkp
  have HI1 := Lib.hid hiny
  have HI2 := Lib.hid hinu
  have HI3 := Lib.hid hinv
  have hbl := lt_of_block hb
  have by' : b ≠ yb := block_ne hb hc.ys.choose_spec (by decide)
  have bu' : b ≠ ub := block_ne hb hc.us.choose_spec (by decide)
  have bv' : b ≠ vb := block_ne hb hc.vs.choose_spec (by decide)
  have hyl := lt_of_block hc.ys.choose_spec
  have hul := lt_of_block hc.us.choose_spec
  have hvl := lt_of_block hc.vs.choose_spec
  have yu := hc.yu
  have yv := hc.yv
  have uv := hc.uv
  have cy' : cb ≠ yb := block_ne hc.st hc.ys.choose_spec (by decide)
  have HW := Lib.hid hW
  have HCh := Lib.hid hCh
  clear hb hc hkp hiny hinu hinv hW hCh
  go_enter Tryz.func29, Tryz.ntmps29
  go_wp2_with fail
  refine HKP.out.mono ?_
  rintro e w1 ⟨v0, v1, v2, rfl, k0, k1, k2, o1⟩
  obtain ⟨g0, c0, rfl, -⟩ := k0.form (by omega)
  obtain ⟨g1, c1, rfl, -⟩ := k1.form (by omega)
  obtain ⟨g2, c2, rfl, -⟩ := k2.form (by omega)
  have K0 := Lib.hid (ownsRow_of_block (w' := w1.alloc (.cells #[.slice (some ⟨g0, 0, none⟩) (16 * 16) c0, .slice (some ⟨g1, 0, none⟩) (8 * 8) c1, .slice (some ⟨g2, 0, none⟩) (8 * 8) c2] 129)) k0 (fun g hg => by obtain ⟨gc, hgc⟩ := ownsRow_block k0 hg; exact (heap_alloc_lt _ hgc).trans hgc.symm))
  have K1 := Lib.hid (ownsRow_of_block (w' := w1.alloc (.cells #[.slice (some ⟨g0, 0, none⟩) (16 * 16) c0, .slice (some ⟨g1, 0, none⟩) (8 * 8) c1, .slice (some ⟨g2, 0, none⟩) (8 * 8) c2] 129)) k1 (fun g hg => by obtain ⟨gc, hgc⟩ := ownsRow_block k1 hg; exact (heap_alloc_lt _ hgc).trans hgc.symm))
  have K2 := Lib.hid (ownsRow_of_block (w' := w1.alloc (.cells #[.slice (some ⟨g0, 0, none⟩) (16 * 16) c0, .slice (some ⟨g1, 0, none⟩) (8 * 8) c1, .slice (some ⟨g2, 0, none⟩) (8 * 8) c2] 129)) k2 (fun g hg => by obtain ⟨gc, hgc⟩ := ownsRow_block k2 hg; exact (heap_alloc_lt _ hgc).trans hgc.symm))
  have O1 := Lib.hid (o1.alloc (.cells #[.slice (some ⟨g0, 0, none⟩) (16 * 16) c0, .slice (some ⟨g1, 0, none⟩) (8 * 8) c1, .slice (some ⟨g2, 0, none⟩) (8 * 8) c2] 129))
  have A1 := Lib.hid (heap_alloc_at w1 (.cells #[.slice (some ⟨g0, 0, none⟩) (16 * 16) c0, .slice (some ⟨g1, 0, none⟩) (8 * 8) c1, .slice (some ⟨g2, 0, none⟩) (8 * 8) c2] 129))
  have hz1 := o1.size
  clear k0 k1 k2 o1 s1 hk HKP
  go_wp2_with fail
  generalize w1.alloc (.cells #[.slice (some ⟨g0, 0, none⟩) (16 * 16) c0, .slice (some ⟨g1, 0, none⟩) (8 * 8) c1, .slice (some ⟨g2, 0, none⟩) (8 * 8) c2] 129) = w2 at *
  generalize w1.heap.size = kb at *
  refine (HW.out _ O1.out).mono ?_
  rintro e w3 ⟨rfl, ⟨Y', hG, sy⟩, o3⟩
  have O3 := Lib.hid ((O1.out.mono (by simp)).trans o3)
  have SY := Lib.hid sy
  have HG := Lib.hid hG
  clear sy hG o3
  go_wp2_with fail
  refine (HCh.out _ Y' O3.out HG.out SY.out).mono ?_
  rintro e w4 ⟨rfl, su, sv, o4⟩
  have O4 : Hid (Only [yb, ub, vb] w w4) := Lib.hid ((O3.out.mono (by simp)).trans (o4.mono (by simp)))
  have SU := Lib.hid su
  have SV := Lib.hid sv
  have SY4 := Lib.hid (SY.out.only o4 (by simp; omega))
  clear su sv o4
  go_wp2
  go_ret
  exact ⟨rfl, ⟨Y', HG.out, SY4.out⟩, SU.out, SV.out, O4.out⟩

set_option maxRecDepth 100000 in
set_option maxHeartbeats 1600000 in
theorem draw_nol16 {w : World} {b cb mb db x yb ub vb cy cu cv wide high : Nat} {Y U V Y' : List Int} {al cur : Value} {aft : Int} (hb : BrushAt w b cb mb db x 0) (hc : CanAt w cb yb ub vb cy cu cv wide high Y U V al cur aft) (hw : wide ≤ 60)
    (hx : x ≤ 60) (hly : Y.length ≤ 1000000) (hlu : U.length ≤ 1000000) (hlv : V.length ≤ 1000000) (hiny : ∀ r, r < 16 → ∀ k, k < 16 → (r + k * 0) * (16 * wide) + x * 16 + k * 1 < Y.length) (hinu : ∀ r, r < 8 → ∀ k, k < 8 → (r + k * 0) * (8 * wide) + x * 8 + k * 1 < U.length) (hinv : ∀ r, r < 8 → ∀ k, k < 8 → (r + k * 0) * (8 * wide) + x * 8 + k * 1 < V.length)
    (hk : w.cell? ⟨mb, 0, none⟩ = some (.int .i64 1)) (hlY' : Y'.length = Y.length)
    (hW : ∀ wx, Only [] w wx → Calls Tryz.prog 55 #[.pointer (some ⟨b, 0, none⟩)] wx fun e w' => e = .returned (.bool false) ∧ SmpAt w' yb Y' ∧ Only [yb] wx w') :
    Calls Tryz.prog 29 #[.pointer (some ⟨b, 0, none⟩)] w fun e w' => e = .returned (.bool false) ∧ SmpAt w' yb (putTo (16 * wide) (x * 16) 0 16 (keepTo Y (16 * wide) (x * 16) 16 16) Y' 256) ∧ SmpAt w' ub U ∧ SmpAt w' vb V ∧ Only [yb, ub, vb] w w' := by
  have s1 : w.cell? ⟨b, 1, none⟩ = some (.pointer (some ⟨mb, 0, none⟩)) := by rw [cells_of hb]; rfl
  have hkp := brush_keep hb hc hw hx hly hlu hlv hiny hinu hinv
  have HB := Lib.hid hb
  have HC := Lib.hid hc
  have HKP := Lib.hid hkp
  have HI1 := Lib.hid hiny
  have HI2 := Lib.hid hinu
  have HI3 := Lib.hid hinv
  have hbl := lt_of_block hb
  have by' : b ≠ yb := block_ne hb hc.ys.choose_spec (by decide)
  have bu' : b ≠ ub := block_ne hb hc.us.choose_spec (by decide)
  have bv' : b ≠ vb := block_ne hb hc.vs.choose_spec (by decide)
  have hyl := lt_of_block hc.ys.choose_spec
  have hul := lt_of_block hc.us.choose_spec
  have hvl := lt_of_block hc.vs.choose_spec
  have yu := hc.yu
  have yv := hc.yv
  have uv := hc.uv
  have cy' : cb ≠ yb := block_ne hc.st hc.ys.choose_spec (by decide)
  have HW := Lib.hid hW
  clear hb hc hkp hiny hinu hinv hW
  go_enter Tryz.func29, Tryz.ntmps29
  go_wp2_with fail
  refine HKP.out.mono ?_
  rintro e w1 ⟨v0, v1, v2, rfl, k0, k1, k2, o1⟩
  obtain ⟨g0, c0, rfl, -⟩ := k0.form (by omega)
  obtain ⟨g1, c1, rfl, -⟩ := k1.form (by omega)
  obtain ⟨g2, c2, rfl, -⟩ := k2.form (by omega)
  have K0 := Lib.hid (ownsRow_of_block (w' := w1.alloc (.cells #[.slice (some ⟨g0, 0, none⟩) (16 * 16) c0, .slice (some ⟨g1, 0, none⟩) (8 * 8) c1, .slice (some ⟨g2, 0, none⟩) (8 * 8) c2] 129)) k0 (fun g hg => by obtain ⟨gc, hgc⟩ := ownsRow_block k0 hg; exact (heap_alloc_lt _ hgc).trans hgc.symm))
  have K1 := Lib.hid (ownsRow_of_block (w' := w1.alloc (.cells #[.slice (some ⟨g0, 0, none⟩) (16 * 16) c0, .slice (some ⟨g1, 0, none⟩) (8 * 8) c1, .slice (some ⟨g2, 0, none⟩) (8 * 8) c2] 129)) k1 (fun g hg => by obtain ⟨gc, hgc⟩ := ownsRow_block k1 hg; exact (heap_alloc_lt _ hgc).trans hgc.symm))
  have K2 := Lib.hid (ownsRow_of_block (w' := w1.alloc (.cells #[.slice (some ⟨g0, 0, none⟩) (16 * 16) c0, .slice (some ⟨g1, 0, none⟩) (8 * 8) c1, .slice (some ⟨g2, 0, none⟩) (8 * 8) c2] 129)) k2 (fun g hg => by obtain ⟨gc, hgc⟩ := ownsRow_block k2 hg; exact (heap_alloc_lt _ hgc).trans hgc.symm))
  have O1 := Lib.hid (o1.alloc (.cells #[.slice (some ⟨g0, 0, none⟩) (16 * 16) c0, .slice (some ⟨g1, 0, none⟩) (8 * 8) c1, .slice (some ⟨g2, 0, none⟩) (8 * 8) c2] 129))
  have A1 := Lib.hid (heap_alloc_at w1 (.cells #[.slice (some ⟨g0, 0, none⟩) (16 * 16) c0, .slice (some ⟨g1, 0, none⟩) (8 * 8) c1, .slice (some ⟨g2, 0, none⟩) (8 * 8) c2] 129))
  have hz1 := o1.size
  clear k0 k1 k2 o1 s1 hk HKP
  go_wp2_with fail
  generalize w1.alloc (.cells #[.slice (some ⟨g0, 0, none⟩) (16 * 16) c0, .slice (some ⟨g1, 0, none⟩) (8 * 8) c1, .slice (some ⟨g2, 0, none⟩) (8 * 8) c2] 129) = w2 at *
  generalize w1.heap.size = kb at *
  refine (HW.out _ O1.out).mono ?_
  rintro e w3 ⟨rfl, sy, o3⟩
  have O3 := Lib.hid ((O1.out.mono (by simp)).trans o3)
  have SY := Lib.hid sy
  have hkb := lt_of_block A1.out
  have ny0 := block_ne (show w2.heap[kb]? = _ from A1.out) ((SmpAt.mk HC.out.ys HC.out.oy).only O1.out (by simp)).sm.choose_spec (by decide)
  have A3 := Lib.hid (o3.heap A1.out (by simpa using ny0))
  have hne : ∀ (g : Nat) (cc : Array Value), w2.heap[g]? = some (.cells cc 3 (0, 0)) → g ≠ yb := fun g cc h => block_ne h ((SmpAt.mk HC.out.ys HC.out.oy).only O1.out (by simp)).sm.choose_spec (by decide)
  have keep : ∀ (g n c m : Nat) (xs : List Value), w2.ownsRow w.heap.size 3 1 (.slice (some ⟨g, 0, none⟩) n c) m xs → w3.ownsRow w.heap.size 3 1 (.slice (some ⟨g, 0, none⟩) n c) m xs := fun g n c m xs h => ownsRow_of_block h fun k hk => by
    obtain ⟨gc, hgc⟩ := ownsRow_block h hk
    exact (o3.heap hgc (by simpa using hne k gc hgc)).trans hgc.symm
  have L0 := Lib.hid (keep _ _ _ _ _ K0.out)
  have L1 := Lib.hid (keep _ _ _ _ _ K1.out)
  have L2 := Lib.hid (keep _ _ _ _ _ K2.out)
  have hb3 : BrushAt w3 b cb mb db x 0 := O3.out.heap HB.out (by simpa using by')
  have hc3 : CanAt w3 cb yb ub vb cy cu cv wide high Y' U V al cur aft := by
    refine ⟨?_, SY.out.sm, (HC.out.us.imp fun r h => O3.out.heap h (by simp; omega)), (HC.out.vs.imp fun r h => O3.out.heap h (by simp; omega)), SY.out.ok, HC.out.ou, HC.out.ov, HC.out.yu, HC.out.yv, HC.out.uv⟩
    rw [hlY']
    exact O3.out.heap HC.out.st (by simpa using cy')
  have hbk := brush_back hb3 hc3 hw hx (by rw [hlY']; exact hly) hlu hlv (by rw [hlY']; exact in_spot (side := 16) (by omega) HI1.out) (in_spot (side := 8) (by omega) HI2.out) (in_spot (side := 8) (by omega) HI3.out)
    (.slice (some ⟨g0, 0, none⟩) (16 * 16) c0) (.slice (some ⟨g1, 0, none⟩) (8 * 8) c1) (.slice (some ⟨g2, 0, none⟩) (8 * 8) c2) (keepTo Y (16 * wide) (x * 16) 16 16) (keepTo U (8 * wide) (x * 8) 8 8) (keepTo V (8 * wide) (x * 8) 8 8)
    (IntSlice.of_rows L0.out (by rw [keepTo_length])) (by rw [keepTo_length]) (keepTo_ok HC.out.oy _ _ 16 (by omega) 16) (IntSlice.of_rows L1.out (by rw [keepTo_length])) (by rw [keepTo_length]) (keepTo_ok HC.out.ou _ _ 8 (by omega) 8) (IntSlice.of_rows L2.out (by rw [keepTo_length])) (by rw [keepTo_length]) (keepTo_ok HC.out.ov _ _ 8 (by omega) 8)
    (Apart.of_own L0.out hc3.ys.choose_spec (by decide)) (Apart.of_own L0.out hc3.us.choose_spec (by decide)) (Apart.of_own L0.out hc3.vs.choose_spec (by decide)) (Apart.of_own L1.out hc3.ys.choose_spec (by decide)) (Apart.of_own L1.out hc3.us.choose_spec (by decide)) (Apart.of_own L1.out hc3.vs.choose_spec (by decide)) (Apart.of_own L2.out hc3.ys.choose_spec (by decide)) (Apart.of_own L2.out hc3.us.choose_spec (by decide)) (Apart.of_own L2.out hc3.vs.choose_spec (by decide))
  rw [putTo_kept U _ _ 8 (by omega) 64 (by omega), putTo_kept V _ _ 8 (by omega) 64 (by omega)] at hbk
  have HBK := Lib.hid hbk
  have hi3 : (Tryz.prog.info? 129).map (·.size) = some (#[.slice (some ⟨g0, 0, none⟩) (16 * 16) c0, .slice (some ⟨g1, 0, none⟩) (8 * 8) c1, .slice (some ⟨g2, 0, none⟩) (8 * 8) c2] : Array Value).size := by kernel_rfl
  have HI := Lib.hid hi3
  clear sy o3 hne keep hb3 hc3 hbk hi3 ny0
  go_wp2_with (with_reducible refine wpList_load_row rfl _ _ rfl _ rfl _ _ _ _ A3.out Tryz.underlying129 rfl HI.out ?_)
  refine HBK.out.mono ?_
  rintro e w5 ⟨rfl, sy5, su5, sv5, o5⟩
  have O5 : Hid (Only [yb, ub, vb] w w5) := Lib.hid ((O3.out.mono (by simp)).trans o5)
  have SY5 := Lib.hid sy5
  have SU5 := Lib.hid su5
  have SV5 := Lib.hid sv5
  clear sy5 su5 sv5 o5
  go_wp2
  go_ret
  exact ⟨rfl, SY5.out, SU5.out, SV5.out, O5.out⟩

set_option maxRecDepth 100000 in
set_option maxHeartbeats 1600000 in
theorem draw_noc16 {w : World} {b cb mb db x yb ub vb cy cu cv wide high : Nat} {Y U V Y' : List Int} {al cur : Value} {aft : Int} (hb : BrushAt w b cb mb db x 0) (hc : CanAt w cb yb ub vb cy cu cv wide high Y U V al cur aft) (hw : wide ≤ 60)
    (hx : x ≤ 60) (hly : Y.length ≤ 1000000) (hlu : U.length ≤ 1000000) (hlv : V.length ≤ 1000000) (hiny : ∀ r, r < 16 → ∀ k, k < 16 → (r + k * 0) * (16 * wide) + x * 16 + k * 1 < Y.length) (hinu : ∀ r, r < 8 → ∀ k, k < 8 → (r + k * 0) * (8 * wide) + x * 8 + k * 1 < U.length) (hinv : ∀ r, r < 8 → ∀ k, k < 8 → (r + k * 0) * (8 * wide) + x * 8 + k * 1 < V.length)
    (hk : w.cell? ⟨mb, 0, none⟩ = some (.int .i64 1)) (hlY' : Y'.length = Y.length)
    (hW : ∀ wx, Only [] w wx → Calls Tryz.prog 55 #[.pointer (some ⟨b, 0, none⟩)] wx fun e w' => e = .returned (.bool true) ∧ SmpAt w' yb Y' ∧ Only [yb] wx w')
    (hCh : ∀ wx, Only [yb] w wx → SmpAt wx yb Y' → Calls Tryz.prog 53 #[.pointer (some ⟨b, 0, none⟩)] wx fun e w' => e = .returned (.bool false) ∧ Only [] wx w') :
    Calls Tryz.prog 29 #[.pointer (some ⟨b, 0, none⟩)] w fun e w' => e = .returned (.bool false) ∧ SmpAt w' yb (putTo (16 * wide) (x * 16) 0 16 (keepTo Y (16 * wide) (x * 16) 16 16) Y' 256) ∧ SmpAt w' ub U ∧ SmpAt w' vb V ∧ Only [yb, ub, vb] w w' := by
  have s1 : w.cell? ⟨b, 1, none⟩ = some (.pointer (some ⟨mb, 0, none⟩)) := by rw [cells_of hb]; rfl
  have hkp := brush_keep hb hc hw hx hly hlu hlv hiny hinu hinv
  have HB := Lib.hid hb
  have HC := Lib.hid hc
  have HKP := Lib.hid hkp
  have HI1 := Lib.hid hiny
  have HI2 := Lib.hid hinu
  have HI3 := Lib.hid hinv
  have hbl := lt_of_block hb
  have by' : b ≠ yb := block_ne hb hc.ys.choose_spec (by decide)
  have bu' : b ≠ ub := block_ne hb hc.us.choose_spec (by decide)
  have bv' : b ≠ vb := block_ne hb hc.vs.choose_spec (by decide)
  have hyl := lt_of_block hc.ys.choose_spec
  have hul := lt_of_block hc.us.choose_spec
  have hvl := lt_of_block hc.vs.choose_spec
  have yu := hc.yu
  have yv := hc.yv
  have uv := hc.uv
  have cy' : cb ≠ yb := block_ne hc.st hc.ys.choose_spec (by decide)
  have HW := Lib.hid hW
  have HCh := Lib.hid hCh
  clear hb hc hkp hiny hinu hinv hW hCh
  go_enter Tryz.func29, Tryz.ntmps29
  go_wp2_with fail
  refine HKP.out.mono ?_
  rintro e w1 ⟨v0, v1, v2, rfl, k0, k1, k2, o1⟩
  obtain ⟨g0, c0, rfl, -⟩ := k0.form (by omega)
  obtain ⟨g1, c1, rfl, -⟩ := k1.form (by omega)
  obtain ⟨g2, c2, rfl, -⟩ := k2.form (by omega)
  have K0 := Lib.hid (ownsRow_of_block (w' := w1.alloc (.cells #[.slice (some ⟨g0, 0, none⟩) (16 * 16) c0, .slice (some ⟨g1, 0, none⟩) (8 * 8) c1, .slice (some ⟨g2, 0, none⟩) (8 * 8) c2] 129)) k0 (fun g hg => by obtain ⟨gc, hgc⟩ := ownsRow_block k0 hg; exact (heap_alloc_lt _ hgc).trans hgc.symm))
  have K1 := Lib.hid (ownsRow_of_block (w' := w1.alloc (.cells #[.slice (some ⟨g0, 0, none⟩) (16 * 16) c0, .slice (some ⟨g1, 0, none⟩) (8 * 8) c1, .slice (some ⟨g2, 0, none⟩) (8 * 8) c2] 129)) k1 (fun g hg => by obtain ⟨gc, hgc⟩ := ownsRow_block k1 hg; exact (heap_alloc_lt _ hgc).trans hgc.symm))
  have K2 := Lib.hid (ownsRow_of_block (w' := w1.alloc (.cells #[.slice (some ⟨g0, 0, none⟩) (16 * 16) c0, .slice (some ⟨g1, 0, none⟩) (8 * 8) c1, .slice (some ⟨g2, 0, none⟩) (8 * 8) c2] 129)) k2 (fun g hg => by obtain ⟨gc, hgc⟩ := ownsRow_block k2 hg; exact (heap_alloc_lt _ hgc).trans hgc.symm))
  have O1 := Lib.hid (o1.alloc (.cells #[.slice (some ⟨g0, 0, none⟩) (16 * 16) c0, .slice (some ⟨g1, 0, none⟩) (8 * 8) c1, .slice (some ⟨g2, 0, none⟩) (8 * 8) c2] 129))
  have A1 := Lib.hid (heap_alloc_at w1 (.cells #[.slice (some ⟨g0, 0, none⟩) (16 * 16) c0, .slice (some ⟨g1, 0, none⟩) (8 * 8) c1, .slice (some ⟨g2, 0, none⟩) (8 * 8) c2] 129))
  have hz1 := o1.size
  clear k0 k1 k2 o1 s1 hk HKP
  go_wp2_with fail
  generalize w1.alloc (.cells #[.slice (some ⟨g0, 0, none⟩) (16 * 16) c0, .slice (some ⟨g1, 0, none⟩) (8 * 8) c1, .slice (some ⟨g2, 0, none⟩) (8 * 8) c2] 129) = w2 at *
  generalize w1.heap.size = kb at *
  refine (HW.out _ O1.out).mono ?_
  rintro e w3 ⟨rfl, sy, o3⟩
  have O3x := Lib.hid o3
  have SYx := Lib.hid sy
  clear sy o3
  go_wp2_with fail
  refine (HCh.out _ ((O1.out.mono (by simp)).trans O3x.out) SYx.out).mono ?_
  rintro e w4 ⟨rfl, o4⟩
  have o3 := O3x.out.trans (o4.mono (by simp))
  have sy := SYx.out.only o4 (by simp)
  clear o4
  have O3 := Lib.hid ((O1.out.mono (by simp)).trans o3)
  have SY := Lib.hid sy
  have hkb := lt_of_block A1.out
  have ny0 := block_ne (show w2.heap[kb]? = _ from A1.out) ((SmpAt.mk HC.out.ys HC.out.oy).only O1.out (by simp)).sm.choose_spec (by decide)
  have A3 := Lib.hid (o3.heap A1.out (by simpa using ny0))
  have hne : ∀ (g : Nat) (cc : Array Value), w2.heap[g]? = some (.cells cc 3 (0, 0)) → g ≠ yb := fun g cc h => block_ne h ((SmpAt.mk HC.out.ys HC.out.oy).only O1.out (by simp)).sm.choose_spec (by decide)
  have keep : ∀ (g n c m : Nat) (xs : List Value), w2.ownsRow w.heap.size 3 1 (.slice (some ⟨g, 0, none⟩) n c) m xs → w4.ownsRow w.heap.size 3 1 (.slice (some ⟨g, 0, none⟩) n c) m xs := fun g n c m xs h => ownsRow_of_block h fun k hk => by
    obtain ⟨gc, hgc⟩ := ownsRow_block h hk
    exact (o3.heap hgc (by simpa using hne k gc hgc)).trans hgc.symm
  have L0 := Lib.hid (keep _ _ _ _ _ K0.out)
  have L1 := Lib.hid (keep _ _ _ _ _ K1.out)
  have L2 := Lib.hid (keep _ _ _ _ _ K2.out)
  have hb3 : BrushAt w4 b cb mb db x 0 := O3.out.heap HB.out (by simpa using by')
  have hc3 : CanAt w4 cb yb ub vb cy cu cv wide high Y' U V al cur aft := by
    refine ⟨?_, SY.out.sm, (HC.out.us.imp fun r h => O3.out.heap h (by simp; omega)), (HC.out.vs.imp fun r h => O3.out.heap h (by simp; omega)), SY.out.ok, HC.out.ou, HC.out.ov, HC.out.yu, HC.out.yv, HC.out.uv⟩
    rw [hlY']
    exact O3.out.heap HC.out.st (by simpa using cy')
  have hbk := brush_back hb3 hc3 hw hx (by rw [hlY']; exact hly) hlu hlv (by rw [hlY']; exact in_spot (side := 16) (by omega) HI1.out) (in_spot (side := 8) (by omega) HI2.out) (in_spot (side := 8) (by omega) HI3.out)
    (.slice (some ⟨g0, 0, none⟩) (16 * 16) c0) (.slice (some ⟨g1, 0, none⟩) (8 * 8) c1) (.slice (some ⟨g2, 0, none⟩) (8 * 8) c2) (keepTo Y (16 * wide) (x * 16) 16 16) (keepTo U (8 * wide) (x * 8) 8 8) (keepTo V (8 * wide) (x * 8) 8 8)
    (IntSlice.of_rows L0.out (by rw [keepTo_length])) (by rw [keepTo_length]) (keepTo_ok HC.out.oy _ _ 16 (by omega) 16) (IntSlice.of_rows L1.out (by rw [keepTo_length])) (by rw [keepTo_length]) (keepTo_ok HC.out.ou _ _ 8 (by omega) 8) (IntSlice.of_rows L2.out (by rw [keepTo_length])) (by rw [keepTo_length]) (keepTo_ok HC.out.ov _ _ 8 (by omega) 8)
    (Apart.of_own L0.out hc3.ys.choose_spec (by decide)) (Apart.of_own L0.out hc3.us.choose_spec (by decide)) (Apart.of_own L0.out hc3.vs.choose_spec (by decide)) (Apart.of_own L1.out hc3.ys.choose_spec (by decide)) (Apart.of_own L1.out hc3.us.choose_spec (by decide)) (Apart.of_own L1.out hc3.vs.choose_spec (by decide)) (Apart.of_own L2.out hc3.ys.choose_spec (by decide)) (Apart.of_own L2.out hc3.us.choose_spec (by decide)) (Apart.of_own L2.out hc3.vs.choose_spec (by decide))
  rw [putTo_kept U _ _ 8 (by omega) 64 (by omega), putTo_kept V _ _ 8 (by omega) 64 (by omega)] at hbk
  have HBK := Lib.hid hbk
  have hi3 : (Tryz.prog.info? 129).map (·.size) = some (#[.slice (some ⟨g0, 0, none⟩) (16 * 16) c0, .slice (some ⟨g1, 0, none⟩) (8 * 8) c1, .slice (some ⟨g2, 0, none⟩) (8 * 8) c2] : Array Value).size := by kernel_rfl
  have HI := Lib.hid hi3
  clear sy o3 hne keep hb3 hc3 hbk hi3 ny0
  go_wp2_with (with_reducible refine wpList_load_row rfl _ _ rfl _ rfl _ _ _ _ A3.out Tryz.underlying129 rfl HI.out ?_)
  refine HBK.out.mono ?_
  rintro e w5 ⟨rfl, sy5, su5, sv5, o5⟩
  have O5 : Hid (Only [yb, ub, vb] w w5) := Lib.hid ((O3.out.mono (by simp)).trans o5)
  have SY5 := Lib.hid sy5
  have SU5 := Lib.hid su5
  have SV5 := Lib.hid sv5
  clear sy5 su5 sv5 o5
  go_wp2
  go_ret
  exact ⟨rfl, SY5.out, SU5.out, SV5.out, O5.out⟩
set_option maxRecDepth 100000 in
set_option maxHeartbeats 1600000 in
theorem draw_ok4 {w : World} {b cb mb db x yb ub vb cy cu cv wide high : Nat} {Y U V U' V' : List Int} {al cur : Value} {aft : Int} (hb : BrushAt w b cb mb db x 0) (hc : CanAt w cb yb ub vb cy cu cv wide high Y U V al cur aft) (hw : wide ≤ 60)
    (hx : x ≤ 60) (hly : Y.length ≤ 1000000) (hlu : U.length ≤ 1000000) (hlv : V.length ≤ 1000000) (hiny : ∀ r, r < 16 → ∀ k, k < 16 → (r + k * 0) * (16 * wide) + x * 16 + k * 1 < Y.length) (hinu : ∀ r, r < 8 → ∀ k, k < 8 → (r + k * 0) * (8 * wide) + x * 8 + k * 1 < U.length) (hinv : ∀ r, r < 8 → ∀ k, k < 8 → (r + k * 0) * (8 * wide) + x * 8 + k * 1 < V.length)
    (hk : w.cell? ⟨mb, 0, none⟩ = some (.int .i64 0)) (G : List Int → Prop)
    (hW : ∀ wx, Only [] w wx → Calls Tryz.prog 52 #[.pointer (some ⟨b, 0, none⟩)] wx fun e w' => e = .returned (.bool true) ∧ (∃ Y', G Y' ∧ SmpAt w' yb Y') ∧ Only [yb] wx w')
    (hCh : ∀ wx Y', Only [yb] w wx → G Y' → SmpAt wx yb Y' → Calls Tryz.prog 53 #[.pointer (some ⟨b, 0, none⟩)] wx fun e w' => e = .returned (.bool true) ∧ SmpAt w' ub U' ∧ SmpAt w' vb V' ∧ Only [ub, vb] wx w') :
    Calls Tryz.prog 29 #[.pointer (some ⟨b, 0, none⟩)] w fun e w' => e = .returned (.bool true) ∧ (∃ Y', G Y' ∧ SmpAt w' yb Y') ∧ SmpAt w' ub U' ∧ SmpAt w' vb V' ∧ Only [yb, ub, vb] w w' := by
  have s1 : w.cell? ⟨b, 1, none⟩ = some (.pointer (some ⟨mb, 0, none⟩)) := by rw [cells_of hb]; rfl
  have hkp := brush_keep hb hc hw hx hly hlu hlv hiny hinu hinv
  have HB := Lib.hid hb
  have HC := Lib.hid hc
  have HKP := Lib.hid hkp
  have HI1 := Lib.hid hiny
  have HI2 := Lib.hid hinu
  have HI3 := Lib.hid hinv
  have hbl := lt_of_block hb
  have by' : b ≠ yb := block_ne hb hc.ys.choose_spec (by decide)
  have bu' : b ≠ ub := block_ne hb hc.us.choose_spec (by decide)
  have bv' : b ≠ vb := block_ne hb hc.vs.choose_spec (by decide)
  have hyl := lt_of_block hc.ys.choose_spec
  have hul := lt_of_block hc.us.choose_spec
  have hvl := lt_of_block hc.vs.choose_spec
  have yu := hc.yu
  have yv := hc.yv
  have uv := hc.uv
  have cy' : cb ≠ yb := block_ne hc.st hc.ys.choose_spec (by decide)
  have HW := Lib.hid hW
  have HCh := Lib.hid hCh
  clear hb hc hkp hiny hinu hinv hW hCh
  go_enter Tryz.func29, Tryz.ntmps29
  go_wp2_with fail
  refine HKP.out.mono ?_
  rintro e w1 ⟨v0, v1, v2, rfl, k0, k1, k2, o1⟩
  obtain ⟨g0, c0, rfl, -⟩ := k0.form (by omega)
  obtain ⟨g1, c1, rfl, -⟩ := k1.form (by omega)
  obtain ⟨g2, c2, rfl, -⟩ := k2.form (by omega)
  have K0 := Lib.hid (ownsRow_of_block (w' := w1.alloc (.cells #[.slice (some ⟨g0, 0, none⟩) (16 * 16) c0, .slice (some ⟨g1, 0, none⟩) (8 * 8) c1, .slice (some ⟨g2, 0, none⟩) (8 * 8) c2] 129)) k0 (fun g hg => by obtain ⟨gc, hgc⟩ := ownsRow_block k0 hg; exact (heap_alloc_lt _ hgc).trans hgc.symm))
  have K1 := Lib.hid (ownsRow_of_block (w' := w1.alloc (.cells #[.slice (some ⟨g0, 0, none⟩) (16 * 16) c0, .slice (some ⟨g1, 0, none⟩) (8 * 8) c1, .slice (some ⟨g2, 0, none⟩) (8 * 8) c2] 129)) k1 (fun g hg => by obtain ⟨gc, hgc⟩ := ownsRow_block k1 hg; exact (heap_alloc_lt _ hgc).trans hgc.symm))
  have K2 := Lib.hid (ownsRow_of_block (w' := w1.alloc (.cells #[.slice (some ⟨g0, 0, none⟩) (16 * 16) c0, .slice (some ⟨g1, 0, none⟩) (8 * 8) c1, .slice (some ⟨g2, 0, none⟩) (8 * 8) c2] 129)) k2 (fun g hg => by obtain ⟨gc, hgc⟩ := ownsRow_block k2 hg; exact (heap_alloc_lt _ hgc).trans hgc.symm))
  have O1 := Lib.hid (o1.alloc (.cells #[.slice (some ⟨g0, 0, none⟩) (16 * 16) c0, .slice (some ⟨g1, 0, none⟩) (8 * 8) c1, .slice (some ⟨g2, 0, none⟩) (8 * 8) c2] 129))
  have A1 := Lib.hid (heap_alloc_at w1 (.cells #[.slice (some ⟨g0, 0, none⟩) (16 * 16) c0, .slice (some ⟨g1, 0, none⟩) (8 * 8) c1, .slice (some ⟨g2, 0, none⟩) (8 * 8) c2] 129))
  have hz1 := o1.size
  clear k0 k1 k2 o1 s1 hk HKP
  go_wp2_with fail
  generalize w1.alloc (.cells #[.slice (some ⟨g0, 0, none⟩) (16 * 16) c0, .slice (some ⟨g1, 0, none⟩) (8 * 8) c1, .slice (some ⟨g2, 0, none⟩) (8 * 8) c2] 129) = w2 at *
  generalize w1.heap.size = kb at *
  refine (HW.out _ O1.out).mono ?_
  rintro e w3 ⟨rfl, ⟨Y', hG, sy⟩, o3⟩
  have O3 := Lib.hid ((O1.out.mono (by simp)).trans o3)
  have SY := Lib.hid sy
  have HG := Lib.hid hG
  clear sy hG o3
  go_wp2_with fail
  refine (HCh.out _ Y' O3.out HG.out SY.out).mono ?_
  rintro e w4 ⟨rfl, su, sv, o4⟩
  have O4 : Hid (Only [yb, ub, vb] w w4) := Lib.hid ((O3.out.mono (by simp)).trans (o4.mono (by simp)))
  have SU := Lib.hid su
  have SV := Lib.hid sv
  have SY4 := Lib.hid (SY.out.only o4 (by simp; omega))
  clear su sv o4
  go_wp2
  go_ret
  exact ⟨rfl, ⟨Y', HG.out, SY4.out⟩, SU.out, SV.out, O4.out⟩

set_option maxRecDepth 100000 in
set_option maxHeartbeats 1600000 in
theorem draw_nol4 {w : World} {b cb mb db x yb ub vb cy cu cv wide high : Nat} {Y U V Y' : List Int} {al cur : Value} {aft : Int} (hb : BrushAt w b cb mb db x 0) (hc : CanAt w cb yb ub vb cy cu cv wide high Y U V al cur aft) (hw : wide ≤ 60)
    (hx : x ≤ 60) (hly : Y.length ≤ 1000000) (hlu : U.length ≤ 1000000) (hlv : V.length ≤ 1000000) (hiny : ∀ r, r < 16 → ∀ k, k < 16 → (r + k * 0) * (16 * wide) + x * 16 + k * 1 < Y.length) (hinu : ∀ r, r < 8 → ∀ k, k < 8 → (r + k * 0) * (8 * wide) + x * 8 + k * 1 < U.length) (hinv : ∀ r, r < 8 → ∀ k, k < 8 → (r + k * 0) * (8 * wide) + x * 8 + k * 1 < V.length)
    (hk : w.cell? ⟨mb, 0, none⟩ = some (.int .i64 0)) (hlY' : Y'.length = Y.length)
    (hW : ∀ wx, Only [] w wx → Calls Tryz.prog 52 #[.pointer (some ⟨b, 0, none⟩)] wx fun e w' => e = .returned (.bool false) ∧ SmpAt w' yb Y' ∧ Only [yb] wx w') :
    Calls Tryz.prog 29 #[.pointer (some ⟨b, 0, none⟩)] w fun e w' => e = .returned (.bool false) ∧ SmpAt w' yb (putTo (16 * wide) (x * 16) 0 16 (keepTo Y (16 * wide) (x * 16) 16 16) Y' 256) ∧ SmpAt w' ub U ∧ SmpAt w' vb V ∧ Only [yb, ub, vb] w w' := by
  have s1 : w.cell? ⟨b, 1, none⟩ = some (.pointer (some ⟨mb, 0, none⟩)) := by rw [cells_of hb]; rfl
  have hkp := brush_keep hb hc hw hx hly hlu hlv hiny hinu hinv
  have HB := Lib.hid hb
  have HC := Lib.hid hc
  have HKP := Lib.hid hkp
  have HI1 := Lib.hid hiny
  have HI2 := Lib.hid hinu
  have HI3 := Lib.hid hinv
  have hbl := lt_of_block hb
  have by' : b ≠ yb := block_ne hb hc.ys.choose_spec (by decide)
  have bu' : b ≠ ub := block_ne hb hc.us.choose_spec (by decide)
  have bv' : b ≠ vb := block_ne hb hc.vs.choose_spec (by decide)
  have hyl := lt_of_block hc.ys.choose_spec
  have hul := lt_of_block hc.us.choose_spec
  have hvl := lt_of_block hc.vs.choose_spec
  have yu := hc.yu
  have yv := hc.yv
  have uv := hc.uv
  have cy' : cb ≠ yb := block_ne hc.st hc.ys.choose_spec (by decide)
  have HW := Lib.hid hW
  clear hb hc hkp hiny hinu hinv hW
  go_enter Tryz.func29, Tryz.ntmps29
  go_wp2_with fail
  refine HKP.out.mono ?_
  rintro e w1 ⟨v0, v1, v2, rfl, k0, k1, k2, o1⟩
  obtain ⟨g0, c0, rfl, -⟩ := k0.form (by omega)
  obtain ⟨g1, c1, rfl, -⟩ := k1.form (by omega)
  obtain ⟨g2, c2, rfl, -⟩ := k2.form (by omega)
  have K0 := Lib.hid (ownsRow_of_block (w' := w1.alloc (.cells #[.slice (some ⟨g0, 0, none⟩) (16 * 16) c0, .slice (some ⟨g1, 0, none⟩) (8 * 8) c1, .slice (some ⟨g2, 0, none⟩) (8 * 8) c2] 129)) k0 (fun g hg => by obtain ⟨gc, hgc⟩ := ownsRow_block k0 hg; exact (heap_alloc_lt _ hgc).trans hgc.symm))
  have K1 := Lib.hid (ownsRow_of_block (w' := w1.alloc (.cells #[.slice (some ⟨g0, 0, none⟩) (16 * 16) c0, .slice (some ⟨g1, 0, none⟩) (8 * 8) c1, .slice (some ⟨g2, 0, none⟩) (8 * 8) c2] 129)) k1 (fun g hg => by obtain ⟨gc, hgc⟩ := ownsRow_block k1 hg; exact (heap_alloc_lt _ hgc).trans hgc.symm))
  have K2 := Lib.hid (ownsRow_of_block (w' := w1.alloc (.cells #[.slice (some ⟨g0, 0, none⟩) (16 * 16) c0, .slice (some ⟨g1, 0, none⟩) (8 * 8) c1, .slice (some ⟨g2, 0, none⟩) (8 * 8) c2] 129)) k2 (fun g hg => by obtain ⟨gc, hgc⟩ := ownsRow_block k2 hg; exact (heap_alloc_lt _ hgc).trans hgc.symm))
  have O1 := Lib.hid (o1.alloc (.cells #[.slice (some ⟨g0, 0, none⟩) (16 * 16) c0, .slice (some ⟨g1, 0, none⟩) (8 * 8) c1, .slice (some ⟨g2, 0, none⟩) (8 * 8) c2] 129))
  have A1 := Lib.hid (heap_alloc_at w1 (.cells #[.slice (some ⟨g0, 0, none⟩) (16 * 16) c0, .slice (some ⟨g1, 0, none⟩) (8 * 8) c1, .slice (some ⟨g2, 0, none⟩) (8 * 8) c2] 129))
  have hz1 := o1.size
  clear k0 k1 k2 o1 s1 hk HKP
  go_wp2_with fail
  generalize w1.alloc (.cells #[.slice (some ⟨g0, 0, none⟩) (16 * 16) c0, .slice (some ⟨g1, 0, none⟩) (8 * 8) c1, .slice (some ⟨g2, 0, none⟩) (8 * 8) c2] 129) = w2 at *
  generalize w1.heap.size = kb at *
  refine (HW.out _ O1.out).mono ?_
  rintro e w3 ⟨rfl, sy, o3⟩
  have O3 := Lib.hid ((O1.out.mono (by simp)).trans o3)
  have SY := Lib.hid sy
  have hkb := lt_of_block A1.out
  have ny0 := block_ne (show w2.heap[kb]? = _ from A1.out) ((SmpAt.mk HC.out.ys HC.out.oy).only O1.out (by simp)).sm.choose_spec (by decide)
  have A3 := Lib.hid (o3.heap A1.out (by simpa using ny0))
  have hne : ∀ (g : Nat) (cc : Array Value), w2.heap[g]? = some (.cells cc 3 (0, 0)) → g ≠ yb := fun g cc h => block_ne h ((SmpAt.mk HC.out.ys HC.out.oy).only O1.out (by simp)).sm.choose_spec (by decide)
  have keep : ∀ (g n c m : Nat) (xs : List Value), w2.ownsRow w.heap.size 3 1 (.slice (some ⟨g, 0, none⟩) n c) m xs → w3.ownsRow w.heap.size 3 1 (.slice (some ⟨g, 0, none⟩) n c) m xs := fun g n c m xs h => ownsRow_of_block h fun k hk => by
    obtain ⟨gc, hgc⟩ := ownsRow_block h hk
    exact (o3.heap hgc (by simpa using hne k gc hgc)).trans hgc.symm
  have L0 := Lib.hid (keep _ _ _ _ _ K0.out)
  have L1 := Lib.hid (keep _ _ _ _ _ K1.out)
  have L2 := Lib.hid (keep _ _ _ _ _ K2.out)
  have hb3 : BrushAt w3 b cb mb db x 0 := O3.out.heap HB.out (by simpa using by')
  have hc3 : CanAt w3 cb yb ub vb cy cu cv wide high Y' U V al cur aft := by
    refine ⟨?_, SY.out.sm, (HC.out.us.imp fun r h => O3.out.heap h (by simp; omega)), (HC.out.vs.imp fun r h => O3.out.heap h (by simp; omega)), SY.out.ok, HC.out.ou, HC.out.ov, HC.out.yu, HC.out.yv, HC.out.uv⟩
    rw [hlY']
    exact O3.out.heap HC.out.st (by simpa using cy')
  have hbk := brush_back hb3 hc3 hw hx (by rw [hlY']; exact hly) hlu hlv (by rw [hlY']; exact in_spot (side := 16) (by omega) HI1.out) (in_spot (side := 8) (by omega) HI2.out) (in_spot (side := 8) (by omega) HI3.out)
    (.slice (some ⟨g0, 0, none⟩) (16 * 16) c0) (.slice (some ⟨g1, 0, none⟩) (8 * 8) c1) (.slice (some ⟨g2, 0, none⟩) (8 * 8) c2) (keepTo Y (16 * wide) (x * 16) 16 16) (keepTo U (8 * wide) (x * 8) 8 8) (keepTo V (8 * wide) (x * 8) 8 8)
    (IntSlice.of_rows L0.out (by rw [keepTo_length])) (by rw [keepTo_length]) (keepTo_ok HC.out.oy _ _ 16 (by omega) 16) (IntSlice.of_rows L1.out (by rw [keepTo_length])) (by rw [keepTo_length]) (keepTo_ok HC.out.ou _ _ 8 (by omega) 8) (IntSlice.of_rows L2.out (by rw [keepTo_length])) (by rw [keepTo_length]) (keepTo_ok HC.out.ov _ _ 8 (by omega) 8)
    (Apart.of_own L0.out hc3.ys.choose_spec (by decide)) (Apart.of_own L0.out hc3.us.choose_spec (by decide)) (Apart.of_own L0.out hc3.vs.choose_spec (by decide)) (Apart.of_own L1.out hc3.ys.choose_spec (by decide)) (Apart.of_own L1.out hc3.us.choose_spec (by decide)) (Apart.of_own L1.out hc3.vs.choose_spec (by decide)) (Apart.of_own L2.out hc3.ys.choose_spec (by decide)) (Apart.of_own L2.out hc3.us.choose_spec (by decide)) (Apart.of_own L2.out hc3.vs.choose_spec (by decide))
  rw [putTo_kept U _ _ 8 (by omega) 64 (by omega), putTo_kept V _ _ 8 (by omega) 64 (by omega)] at hbk
  have HBK := Lib.hid hbk
  have hi3 : (Tryz.prog.info? 129).map (·.size) = some (#[.slice (some ⟨g0, 0, none⟩) (16 * 16) c0, .slice (some ⟨g1, 0, none⟩) (8 * 8) c1, .slice (some ⟨g2, 0, none⟩) (8 * 8) c2] : Array Value).size := by kernel_rfl
  have HI := Lib.hid hi3
  clear sy o3 hne keep hb3 hc3 hbk hi3 ny0
  go_wp2_with (with_reducible refine wpList_load_row rfl _ _ rfl _ rfl _ _ _ _ A3.out Tryz.underlying129 rfl HI.out ?_)
  refine HBK.out.mono ?_
  rintro e w5 ⟨rfl, sy5, su5, sv5, o5⟩
  have O5 : Hid (Only [yb, ub, vb] w w5) := Lib.hid ((O3.out.mono (by simp)).trans o5)
  have SY5 := Lib.hid sy5
  have SU5 := Lib.hid su5
  have SV5 := Lib.hid sv5
  clear sy5 su5 sv5 o5
  go_wp2
  go_ret
  exact ⟨rfl, SY5.out, SU5.out, SV5.out, O5.out⟩

set_option maxRecDepth 100000 in
set_option maxHeartbeats 1600000 in
theorem draw_noc4 {w : World} {b cb mb db x yb ub vb cy cu cv wide high : Nat} {Y U V Y' : List Int} {al cur : Value} {aft : Int} (hb : BrushAt w b cb mb db x 0) (hc : CanAt w cb yb ub vb cy cu cv wide high Y U V al cur aft) (hw : wide ≤ 60)
    (hx : x ≤ 60) (hly : Y.length ≤ 1000000) (hlu : U.length ≤ 1000000) (hlv : V.length ≤ 1000000) (hiny : ∀ r, r < 16 → ∀ k, k < 16 → (r + k * 0) * (16 * wide) + x * 16 + k * 1 < Y.length) (hinu : ∀ r, r < 8 → ∀ k, k < 8 → (r + k * 0) * (8 * wide) + x * 8 + k * 1 < U.length) (hinv : ∀ r, r < 8 → ∀ k, k < 8 → (r + k * 0) * (8 * wide) + x * 8 + k * 1 < V.length)
    (hk : w.cell? ⟨mb, 0, none⟩ = some (.int .i64 0)) (hlY' : Y'.length = Y.length)
    (hW : ∀ wx, Only [] w wx → Calls Tryz.prog 52 #[.pointer (some ⟨b, 0, none⟩)] wx fun e w' => e = .returned (.bool true) ∧ SmpAt w' yb Y' ∧ Only [yb] wx w')
    (hCh : ∀ wx, Only [yb] w wx → SmpAt wx yb Y' → Calls Tryz.prog 53 #[.pointer (some ⟨b, 0, none⟩)] wx fun e w' => e = .returned (.bool false) ∧ Only [] wx w') :
    Calls Tryz.prog 29 #[.pointer (some ⟨b, 0, none⟩)] w fun e w' => e = .returned (.bool false) ∧ SmpAt w' yb (putTo (16 * wide) (x * 16) 0 16 (keepTo Y (16 * wide) (x * 16) 16 16) Y' 256) ∧ SmpAt w' ub U ∧ SmpAt w' vb V ∧ Only [yb, ub, vb] w w' := by
  have s1 : w.cell? ⟨b, 1, none⟩ = some (.pointer (some ⟨mb, 0, none⟩)) := by rw [cells_of hb]; rfl
  have hkp := brush_keep hb hc hw hx hly hlu hlv hiny hinu hinv
  have HB := Lib.hid hb
  have HC := Lib.hid hc
  have HKP := Lib.hid hkp
  have HI1 := Lib.hid hiny
  have HI2 := Lib.hid hinu
  have HI3 := Lib.hid hinv
  have hbl := lt_of_block hb
  have by' : b ≠ yb := block_ne hb hc.ys.choose_spec (by decide)
  have bu' : b ≠ ub := block_ne hb hc.us.choose_spec (by decide)
  have bv' : b ≠ vb := block_ne hb hc.vs.choose_spec (by decide)
  have hyl := lt_of_block hc.ys.choose_spec
  have hul := lt_of_block hc.us.choose_spec
  have hvl := lt_of_block hc.vs.choose_spec
  have yu := hc.yu
  have yv := hc.yv
  have uv := hc.uv
  have cy' : cb ≠ yb := block_ne hc.st hc.ys.choose_spec (by decide)
  have HW := Lib.hid hW
  have HCh := Lib.hid hCh
  clear hb hc hkp hiny hinu hinv hW hCh
  go_enter Tryz.func29, Tryz.ntmps29
  go_wp2_with fail
  refine HKP.out.mono ?_
  rintro e w1 ⟨v0, v1, v2, rfl, k0, k1, k2, o1⟩
  obtain ⟨g0, c0, rfl, -⟩ := k0.form (by omega)
  obtain ⟨g1, c1, rfl, -⟩ := k1.form (by omega)
  obtain ⟨g2, c2, rfl, -⟩ := k2.form (by omega)
  have K0 := Lib.hid (ownsRow_of_block (w' := w1.alloc (.cells #[.slice (some ⟨g0, 0, none⟩) (16 * 16) c0, .slice (some ⟨g1, 0, none⟩) (8 * 8) c1, .slice (some ⟨g2, 0, none⟩) (8 * 8) c2] 129)) k0 (fun g hg => by obtain ⟨gc, hgc⟩ := ownsRow_block k0 hg; exact (heap_alloc_lt _ hgc).trans hgc.symm))
  have K1 := Lib.hid (ownsRow_of_block (w' := w1.alloc (.cells #[.slice (some ⟨g0, 0, none⟩) (16 * 16) c0, .slice (some ⟨g1, 0, none⟩) (8 * 8) c1, .slice (some ⟨g2, 0, none⟩) (8 * 8) c2] 129)) k1 (fun g hg => by obtain ⟨gc, hgc⟩ := ownsRow_block k1 hg; exact (heap_alloc_lt _ hgc).trans hgc.symm))
  have K2 := Lib.hid (ownsRow_of_block (w' := w1.alloc (.cells #[.slice (some ⟨g0, 0, none⟩) (16 * 16) c0, .slice (some ⟨g1, 0, none⟩) (8 * 8) c1, .slice (some ⟨g2, 0, none⟩) (8 * 8) c2] 129)) k2 (fun g hg => by obtain ⟨gc, hgc⟩ := ownsRow_block k2 hg; exact (heap_alloc_lt _ hgc).trans hgc.symm))
  have O1 := Lib.hid (o1.alloc (.cells #[.slice (some ⟨g0, 0, none⟩) (16 * 16) c0, .slice (some ⟨g1, 0, none⟩) (8 * 8) c1, .slice (some ⟨g2, 0, none⟩) (8 * 8) c2] 129))
  have A1 := Lib.hid (heap_alloc_at w1 (.cells #[.slice (some ⟨g0, 0, none⟩) (16 * 16) c0, .slice (some ⟨g1, 0, none⟩) (8 * 8) c1, .slice (some ⟨g2, 0, none⟩) (8 * 8) c2] 129))
  have hz1 := o1.size
  clear k0 k1 k2 o1 s1 hk HKP
  go_wp2_with fail
  generalize w1.alloc (.cells #[.slice (some ⟨g0, 0, none⟩) (16 * 16) c0, .slice (some ⟨g1, 0, none⟩) (8 * 8) c1, .slice (some ⟨g2, 0, none⟩) (8 * 8) c2] 129) = w2 at *
  generalize w1.heap.size = kb at *
  refine (HW.out _ O1.out).mono ?_
  rintro e w3 ⟨rfl, sy, o3⟩
  have O3x := Lib.hid o3
  have SYx := Lib.hid sy
  clear sy o3
  go_wp2_with fail
  refine (HCh.out _ ((O1.out.mono (by simp)).trans O3x.out) SYx.out).mono ?_
  rintro e w4 ⟨rfl, o4⟩
  have o3 := O3x.out.trans (o4.mono (by simp))
  have sy := SYx.out.only o4 (by simp)
  clear o4
  have O3 := Lib.hid ((O1.out.mono (by simp)).trans o3)
  have SY := Lib.hid sy
  have hkb := lt_of_block A1.out
  have ny0 := block_ne (show w2.heap[kb]? = _ from A1.out) ((SmpAt.mk HC.out.ys HC.out.oy).only O1.out (by simp)).sm.choose_spec (by decide)
  have A3 := Lib.hid (o3.heap A1.out (by simpa using ny0))
  have hne : ∀ (g : Nat) (cc : Array Value), w2.heap[g]? = some (.cells cc 3 (0, 0)) → g ≠ yb := fun g cc h => block_ne h ((SmpAt.mk HC.out.ys HC.out.oy).only O1.out (by simp)).sm.choose_spec (by decide)
  have keep : ∀ (g n c m : Nat) (xs : List Value), w2.ownsRow w.heap.size 3 1 (.slice (some ⟨g, 0, none⟩) n c) m xs → w4.ownsRow w.heap.size 3 1 (.slice (some ⟨g, 0, none⟩) n c) m xs := fun g n c m xs h => ownsRow_of_block h fun k hk => by
    obtain ⟨gc, hgc⟩ := ownsRow_block h hk
    exact (o3.heap hgc (by simpa using hne k gc hgc)).trans hgc.symm
  have L0 := Lib.hid (keep _ _ _ _ _ K0.out)
  have L1 := Lib.hid (keep _ _ _ _ _ K1.out)
  have L2 := Lib.hid (keep _ _ _ _ _ K2.out)
  have hb3 : BrushAt w4 b cb mb db x 0 := O3.out.heap HB.out (by simpa using by')
  have hc3 : CanAt w4 cb yb ub vb cy cu cv wide high Y' U V al cur aft := by
    refine ⟨?_, SY.out.sm, (HC.out.us.imp fun r h => O3.out.heap h (by simp; omega)), (HC.out.vs.imp fun r h => O3.out.heap h (by simp; omega)), SY.out.ok, HC.out.ou, HC.out.ov, HC.out.yu, HC.out.yv, HC.out.uv⟩
    rw [hlY']
    exact O3.out.heap HC.out.st (by simpa using cy')
  have hbk := brush_back hb3 hc3 hw hx (by rw [hlY']; exact hly) hlu hlv (by rw [hlY']; exact in_spot (side := 16) (by omega) HI1.out) (in_spot (side := 8) (by omega) HI2.out) (in_spot (side := 8) (by omega) HI3.out)
    (.slice (some ⟨g0, 0, none⟩) (16 * 16) c0) (.slice (some ⟨g1, 0, none⟩) (8 * 8) c1) (.slice (some ⟨g2, 0, none⟩) (8 * 8) c2) (keepTo Y (16 * wide) (x * 16) 16 16) (keepTo U (8 * wide) (x * 8) 8 8) (keepTo V (8 * wide) (x * 8) 8 8)
    (IntSlice.of_rows L0.out (by rw [keepTo_length])) (by rw [keepTo_length]) (keepTo_ok HC.out.oy _ _ 16 (by omega) 16) (IntSlice.of_rows L1.out (by rw [keepTo_length])) (by rw [keepTo_length]) (keepTo_ok HC.out.ou _ _ 8 (by omega) 8) (IntSlice.of_rows L2.out (by rw [keepTo_length])) (by rw [keepTo_length]) (keepTo_ok HC.out.ov _ _ 8 (by omega) 8)
    (Apart.of_own L0.out hc3.ys.choose_spec (by decide)) (Apart.of_own L0.out hc3.us.choose_spec (by decide)) (Apart.of_own L0.out hc3.vs.choose_spec (by decide)) (Apart.of_own L1.out hc3.ys.choose_spec (by decide)) (Apart.of_own L1.out hc3.us.choose_spec (by decide)) (Apart.of_own L1.out hc3.vs.choose_spec (by decide)) (Apart.of_own L2.out hc3.ys.choose_spec (by decide)) (Apart.of_own L2.out hc3.us.choose_spec (by decide)) (Apart.of_own L2.out hc3.vs.choose_spec (by decide))
  rw [putTo_kept U _ _ 8 (by omega) 64 (by omega), putTo_kept V _ _ 8 (by omega) 64 (by omega)] at hbk
  have HBK := Lib.hid hbk
  have hi3 : (Tryz.prog.info? 129).map (·.size) = some (#[.slice (some ⟨g0, 0, none⟩) (16 * 16) c0, .slice (some ⟨g1, 0, none⟩) (8 * 8) c1, .slice (some ⟨g2, 0, none⟩) (8 * 8) c2] : Array Value).size := by kernel_rfl
  have HI := Lib.hid hi3
  clear sy o3 hne keep hb3 hc3 hbk hi3 ny0
  go_wp2_with (with_reducible refine wpList_load_row rfl _ _ rfl _ rfl _ _ _ _ A3.out Tryz.underlying129 rfl HI.out ?_)
  refine HBK.out.mono ?_
  rintro e w5 ⟨rfl, sy5, su5, sv5, o5⟩
  have O5 : Hid (Only [yb, ub, vb] w w5) := Lib.hid ((O3.out.mono (by simp)).trans o5)
  have SY5 := Lib.hid sy5
  have SU5 := Lib.hid su5
  have SV5 := Lib.hid sv5
  clear sy5 su5 sv5 o5
  go_wp2
  go_ret
  exact ⟨rfl, SY5.out, SU5.out, SV5.out, O5.out⟩
end Go.Proofs.YtcmehedjdfopdaaGreat
