/-
  A canvas, a brush and a slice in their blocks; the walk over package recon's brush.there. The walk over package recon's brush.edges: no edges, or the left one alone. The walks over package quant's class, Dequant of noughts. The walks over syntax.Block and package recon's brush.luma with a lowest coefficient.
-/
import Derived.Test.YtcmehedjdfopdaaGreatJ06
import Derived.Deep.RegionLaw
import Derived.StillTailTactics
import Derived.Test.YtcmehedjdfopdaaGreatJ05
namespace Go.Proofs.YtcmehedjdfopdaaGreat
open Go.RowKit

/-- A canvas: its struct in a block, its three planes in others. -/
structure CanAt (w : World) (cb yb ub vb cy cu cv wide high : Nat) (Y U V : List Int) (al cur : Value) (aft : Int) : Prop where
  st : w.heap[cb]? = some (.cells #[.int .i64 wide, .int .i64 high, .int .i64 ((16 * wide : Nat) : Int), .int .i64 ((16 * high : Nat) : Int), .slice (some ⟨yb, 0, none⟩) Y.length cy, .slice (some ⟨ub, 0, none⟩) U.length cu, .slice (some ⟨vb, 0, none⟩) V.length cv, al, cur, .int .i64 aft] 85 (0, 0))
  ys : ∃ rest, w.heap[yb]? = some (.cells (u8s Y ++ rest) 5 (0, 0))
  us : ∃ rest, w.heap[ub]? = some (.cells (u8s U ++ rest) 5 (0, 0))
  vs : ∃ rest, w.heap[vb]? = some (.cells (u8s V ++ rest) 5 (0, 0))
  oy : okPl Y
  ou : okPl U
  ov : okPl V
  yu : yb ≠ ub
  yv : yb ≠ vb
  uv : ub ≠ vb
theorem CanAt.only {w w' : World} {S : List Nat} {cb yb ub vb cy cu cv wide high : Nat} {Y U V : List Int} {al cur : Value} {aft : Int} (h : CanAt w cb yb ub vb cy cu cv wide high Y U V al cur aft) (ho : Only S w w') (h1 : cb ∉ S) (h2 : yb ∉ S) (h3 : ub ∉ S) (h4 : vb ∉ S) : CanAt w' cb yb ub vb cy cu cv wide high Y U V al cur aft := by
  obtain ⟨r1, e1⟩ := h.ys
  obtain ⟨r2, e2⟩ := h.us
  obtain ⟨r3, e3⟩ := h.vs
  exact ⟨ho.heap h.st h1, ⟨r1, ho.heap e1 h2⟩, ⟨r2, ho.heap e2 h3⟩, ⟨r3, ho.heap e3 h4⟩, h.oy, h.ou, h.ov, h.yu, h.yv, h.uv⟩
/-- A brush: its struct in a block. -/
def BrushAt (w : World) (b cb mb db x y : Nat) : Prop := w.heap[b]? = some (.cells #[.pointer (some ⟨cb, 0, none⟩), .pointer (some ⟨mb, 0, none⟩), .pointer (some ⟨db, 0, none⟩), .int .i64 x, .int .i64 y] 99 (0, 0))

set_option maxRecDepth 100000 in
set_option maxHeartbeats 1600000 in
theorem there_neg {w : World} {b cb mb db x y yb ub vb cy cu cv wide high : Nat} {Y U V : List Int} {al cur : Value} {aft : Int} (hb : BrushAt w b cb mb db x y) (hc : CanAt w cb yb ub vb cy cu cv wide high Y U V al cur aft) (x1 y1 : Int) (hw : wide ≤ 1000) (hx : x1 = -1 ∧ (y1 = 0 ∨ y1 = -1) ∨ 0 ≤ x1 ∧ x1 < wide ∧ y1 = -1) :
    Calls Tryz.prog 103 #[.pointer (some ⟨b, 0, none⟩), .int .i64 x1, .int .i64 y1] w fun e w' => e = .returned (.bool false) ∧ w = w' := by
  have s0 : w.cell? ⟨b, 0, none⟩ = some (.pointer (some ⟨cb, 0, none⟩)) := by rw [cells_of hb]; rfl
  have s1 : w.cell? ⟨cb, 0, none⟩ = some (.int .i64 wide) := by rw [cells_of hc.st]; rfl
  clear hb hc
  rcases hx with ⟨rfl, rfl | rfl⟩ | ⟨h0, h1, rfl⟩
  all_goals
    go_enter Tryz.func103, Tryz.ntmps103
    go_wp2
    go_ret
    exact ⟨rfl, rfl⟩
/-- The slice under way: where it begins; none of its macroblocks are barred. -/
structure SlAt (w : World) (sb : Nat) (first : Int) : Prop where
  fi : w.cell? ⟨sb, 0, none⟩ = some (.int .i64 first)
  co : w.cell? ⟨sb, 26, none⟩ = some (.bool false)

set_option maxRecDepth 100000 in
set_option maxHeartbeats 1600000 in
theorem there_yes {w : World} {b cb mb db x y yb ub vb cy cu cv wide high sb : Nat} {Y U V : List Int} {ao : Option Addr} {n cap : Nat} {first : Nat} {aft : Int} (hb : BrushAt w b cb mb db x y) (hc : CanAt w cb yb ub vb cy cu cv wide high Y U V (.slice ao n cap) (.pointer (some ⟨sb, 0, none⟩)) aft) (hs : SlAt w sb first) (x1 : Nat) (hw : wide ≤ 1000) (hx : x1 < wide) (h0 : first ≤ x1) (h1 : x1 < n) :
    Calls Tryz.prog 103 #[.pointer (some ⟨b, 0, none⟩), .int .i64 x1, .int .i64 0] w fun e w' => e = .returned (.bool true) ∧ w = w' := by
  have s0 : w.cell? ⟨b, 0, none⟩ = some (.pointer (some ⟨cb, 0, none⟩)) := by rw [cells_of hb]; rfl
  have s1 : w.cell? ⟨cb, 0, none⟩ = some (.int .i64 wide) := by rw [cells_of hc.st]; rfl
  have s2 : w.cell? ⟨cb, 7, none⟩ = some (.slice ao n cap) := by rw [cells_of hc.st]; rfl
  have s3 : w.cell? ⟨cb, 8, none⟩ = some (.pointer (some ⟨sb, 0, none⟩)) := by rw [cells_of hc.st]; rfl
  have s4 := hs.fi
  have s5 := hs.co
  clear hb hc hs
  go_enter Tryz.func103, Tryz.ntmps103
  go_wp2
  go_ret
  exact ⟨rfl, rfl⟩

set_option maxRecDepth 100000 in
set_option maxHeartbeats 1600000 in
theorem there_no {w : World} {b cb mb db x y yb ub vb cy cu cv wide high sb : Nat} {Y U V : List Int} {ao : Option Addr} {n cap : Nat} {first : Nat} {aft : Int} (hb : BrushAt w b cb mb db x y) (hc : CanAt w cb yb ub vb cy cu cv wide high Y U V (.slice ao n cap) (.pointer (some ⟨sb, 0, none⟩)) aft) (hs : SlAt w sb first) (x1 : Nat) (hw : wide ≤ 1000) (hx : x1 < wide) (h0 : x1 < first) :
    Calls Tryz.prog 103 #[.pointer (some ⟨b, 0, none⟩), .int .i64 x1, .int .i64 0] w fun e w' => e = .returned (.bool false) ∧ w = w' := by
  have s0 : w.cell? ⟨b, 0, none⟩ = some (.pointer (some ⟨cb, 0, none⟩)) := by rw [cells_of hb]; rfl
  have s1 : w.cell? ⟨cb, 0, none⟩ = some (.int .i64 wide) := by rw [cells_of hc.st]; rfl
  have s2 : w.cell? ⟨cb, 7, none⟩ = some (.slice ao n cap) := by rw [cells_of hc.st]; rfl
  have s3 : w.cell? ⟨cb, 8, none⟩ = some (.pointer (some ⟨sb, 0, none⟩)) := by rw [cells_of hc.st]; rfl
  have s4 := hs.fi
  clear hb hc hs
  go_enter Tryz.func103, Tryz.ntmps103
  go_wp2
  go_ret
  exact ⟨rfl, rfl⟩
end Go.Proofs.YtcmehedjdfopdaaGreat

namespace Go.Proofs.YtcmehedjdfopdaaGreat
open Go.RowKit

theorem PlaneAt.side {w : World} {p g cap pw side : Nat} {pl : List Int} (h : PlaneAt w p g cap pw side pl) : w.cell? ⟨p, 2, none⟩ = some (.int .i64 side) := by rw [cells_of h.st]; rfl
/-- What brush.there answers in all worlds that have w's blocks. -/
def ThereAt (w : World) (b : Nat) (x1 y1 : Int) (q : Bool) : Prop := ∀ wx, Only [] w wx → Calls Tryz.prog 103 #[.pointer (some ⟨b, 0, none⟩), .int .i64 x1, .int .i64 y1] wx fun e w' => e = .returned (.bool q) ∧ wx = w'

set_option maxRecDepth 100000 in
set_option maxHeartbeats 1600000 in
theorem edges_none {w : World} {b cb mb db x p g cap pw side : Nat} {pl : List Int} (hb : BrushAt w b cb mb db x 0) (hp : PlaneAt w p g cap pw side pl) (hx : x ≤ 100) (hs : side ≤ 16)
    (h1 : ThereAt w b ((x : Int) - 1) 0 false) (h2 : ThereAt w b x (-1) false) (h3 : ThereAt w b ((x : Int) - 1) (-1) false) :
    Calls Tryz.prog 82 #[.pointer (some ⟨b, 0, none⟩), .pointer (some ⟨p, 0, none⟩)] w fun e w' => e = .returned (.tuple #[.slice none 0 0, .slice none 0 0, .int .i64 (-1)]) ∧ Only [] w w' := by
  have s0 : w.cell? ⟨b, 3, none⟩ = some (.int .i64 x) := by rw [cells_of hb]; rfl
  have s1 : w.cell? ⟨b, 4, none⟩ = some (.int .i64 0) := by rw [cells_of hb]; rfl
  have s2 := hp.side
  obtain ⟨X, hX⟩ : ∃ X : Nat, X = x * side := ⟨_, rfl⟩
  have hX1 : X ≤ 1600 := by rw [hX]; exact Nat.le_trans (Nat.mul_le_mul hx hs) (by omega)
  have q1 : IntKind.i64.wrap ((x : Int) * side) = (X : Int) := by rw [← Int.natCast_mul, ← hX]; exact i64n _ (by omega)
  have q2 : IntKind.i64.wrap ((x : Int) - 1) = (x : Int) - 1 := i64w _ (by omega) (by omega)
  have q0 : IntKind.i64.wrap 0 = 0 := by decide
  have qn : IntKind.i64.wrap (-1) = -1 := by decide
  have H1 := Lib.hid h1
  have H2 := Lib.hid h2
  have H3 := Lib.hid h3
  clear hb hp h1 h2 h3 hX
  go_enter Tryz.func82, Tryz.ntmps82
  go_wp2
  go_still_tail 19, (by kernel_rfl)
  change wpList _ _ _ _ _ w.drew
  have t0 : w.drew.cell? ⟨b, 3, none⟩ = some (.int .i64 x) := s0
  have t1 : w.drew.cell? ⟨b, 4, none⟩ = some (.int .i64 0) := s1
  have t2 : w.drew.cell? ⟨p, 2, none⟩ = some (.int .i64 side) := s2
  have O1 : Hid (Only [] w w.drew) := Lib.hid (Only.refl [] w).drew
  clear s0 s1 s2
  generalize w.drew = w1 at *
  have s0 := t0
  have s1 := t1
  have s2 := t2
  clear t0 t1 t2
  go_wp2_with fail
  go_still_tail 10, (by kernel_rfl)
  change wpList _ _ _ _ _ w1.drew
  have t0 : w1.drew.cell? ⟨b, 3, none⟩ = some (.int .i64 x) := s0
  have t1 : w1.drew.cell? ⟨b, 4, none⟩ = some (.int .i64 0) := s1
  have t2 : w1.drew.cell? ⟨p, 2, none⟩ = some (.int .i64 side) := s2
  have O2 : Hid (Only [] w w1.drew) := Lib.hid O1.out.drew
  clear s0 s1 s2
  generalize w1.drew = w2 at *
  have s0 := t0
  have s1 := t1
  have s2 := t2
  clear t0 t1 t2
  go_wp2_with fail
  refine (H1.out _ O2.out).mono ?_
  rintro r w' ⟨rfl, rfl⟩
  go_wp2_with fail
  go_still_tail 10, (by kernel_rfl)
  change wpList _ _ _ _ _ w2.drew
  have t0 : w2.drew.cell? ⟨b, 3, none⟩ = some (.int .i64 x) := s0
  have t1 : w2.drew.cell? ⟨b, 4, none⟩ = some (.int .i64 0) := s1
  have t2 : w2.drew.cell? ⟨p, 2, none⟩ = some (.int .i64 side) := s2
  have O3 : Hid (Only [] w w2.drew) := Lib.hid O2.out.drew
  clear s0 s1 s2
  generalize w2.drew = w3 at *
  have s0 := t0
  have s1 := t1
  have s2 := t2
  clear t0 t1 t2
  go_wp2_with fail
  refine (H2.out _ O3.out).mono ?_
  rintro r w' ⟨rfl, rfl⟩
  go_wp2_with fail
  go_still_tail 11, (by kernel_rfl)
  change wpList _ _ _ _ _ w3.drew
  have t0 : w3.drew.cell? ⟨b, 3, none⟩ = some (.int .i64 x) := s0
  have t1 : w3.drew.cell? ⟨b, 4, none⟩ = some (.int .i64 0) := s1
  have t2 : w3.drew.cell? ⟨p, 2, none⟩ = some (.int .i64 side) := s2
  have O4 : Hid (Only [] w w3.drew) := Lib.hid O3.out.drew
  clear s0 s1 s2
  generalize w3.drew = w4 at *
  have s0 := t0
  have s1 := t1
  have s2 := t2
  clear t0 t1 t2
  go_wp2_with fail
  refine (H3.out _ O4.out).mono ?_
  rintro r w' ⟨rfl, rfl⟩
  go_wp2
  go_ret3
  exact ⟨rfl, O4.out⟩

set_option maxRecDepth 100000 in
set_option maxHeartbeats 1600000 in
theorem edges_left {w : World} {b cb mb db x p g cap pw side : Nat} {pl : List Int} (hb : BrushAt w b cb mb db x 0) (hp : PlaneAt w p g cap pw side pl) (hx : x ≤ 60) (hs : side ≤ 16) (hx0 : 1 ≤ x) (hs0 : 1 ≤ side) (hl : pl.length ≤ 1000000) (hin : ∀ k, k < side → k * pw + x * side ≤ pl.length)
    (h1 : ThereAt w b ((x : Int) - 1) 0 true) (h2 : ThereAt w b x (-1) false) (h3 : ThereAt w b ((x : Int) - 1) (-1) false) :
    Calls Tryz.prog 82 #[.pointer (some ⟨b, 0, none⟩), .pointer (some ⟨p, 0, none⟩)] w fun e w' => ∃ g', e = .returned (.tuple #[.slice (some ⟨g', 0, none⟩) side side, .slice none 0 0, .int .i64 (-1)]) ∧ w'.heap[g']? = some (.cells (ints (getL pl pw (x * side - 1) 0 0 1 side)) 3 (0, 0)) ∧ Only [] w w' := by
  have s0 : w.cell? ⟨b, 3, none⟩ = some (.int .i64 x) := by rw [cells_of hb]; rfl
  have s1 : w.cell? ⟨b, 4, none⟩ = some (.int .i64 0) := by rw [cells_of hb]; rfl
  have s2 := hp.side
  obtain ⟨X, hX⟩ : ∃ X : Nat, X = x * side := ⟨_, rfl⟩
  have hX1 : X ≤ 960 := by rw [hX]; exact Nat.le_trans (Nat.mul_le_mul hx hs) (by omega)
  obtain ⟨X1, hX2⟩ : ∃ X1 : Nat, X = X1 + 1 := ⟨X - 1, by have : 1 ≤ x * side := Nat.mul_le_mul hx0 hs0; omega⟩
  have hX3 : x * side - 1 = X1 := by omega
  have qx : IntKind.i64.wrap ((X : Int) - 1) = (X1 : Int) := by rw [show (X : Int) - 1 = (X1 : Int) by omega]; exact i64n _ (by omega)
  have hget := fun (wx : World) (hw : Only [] w wx) => plane_get (hp.only hw (by simp) (by simp)) X1 0 0 1 side ⟨by omega, by omega⟩ hs (by omega) (by omega) hl (fun k hk => by have := hin k hk; rw [← hX, hX2] at this; simp; omega)
  rw [hX3]
  have HG := Lib.hid hget
  have q1 : IntKind.i64.wrap ((x : Int) * side) = (X : Int) := by rw [← Int.natCast_mul, ← hX]; exact i64n _ (by omega)
  have q2 : IntKind.i64.wrap ((x : Int) - 1) = (x : Int) - 1 := i64w _ (by omega) (by omega)
  have q0 : IntKind.i64.wrap 0 = 0 := by decide
  have qn : IntKind.i64.wrap (-1) = -1 := by decide
  have H1 := Lib.hid h1
  have H2 := Lib.hid h2
  have H3 := Lib.hid h3
  clear hb hp h1 h2 h3 hX hget hX3 hin
  go_enter Tryz.func82, Tryz.ntmps82
  go_wp2
  go_still_tail 19, (by kernel_rfl)
  change wpList _ _ _ _ _ w.drew
  have t0 : w.drew.cell? ⟨b, 3, none⟩ = some (.int .i64 x) := s0
  have t1 : w.drew.cell? ⟨b, 4, none⟩ = some (.int .i64 0) := s1
  have t2 : w.drew.cell? ⟨p, 2, none⟩ = some (.int .i64 side) := s2
  have O1 : Hid (Only [] w w.drew) := Lib.hid (Only.refl [] w).drew
  clear s0 s1 s2
  generalize w.drew = w1 at *
  have s0 := t0
  have s1 := t1
  have s2 := t2
  clear t0 t1 t2
  go_wp2_with fail
  go_still_tail 10, (by kernel_rfl)
  change wpList _ _ _ _ _ w1.drew
  have t0 : w1.drew.cell? ⟨b, 3, none⟩ = some (.int .i64 x) := s0
  have t1 : w1.drew.cell? ⟨b, 4, none⟩ = some (.int .i64 0) := s1
  have t2 : w1.drew.cell? ⟨p, 2, none⟩ = some (.int .i64 side) := s2
  have O2 : Hid (Only [] w w1.drew) := Lib.hid O1.out.drew
  clear s0 s1 s2
  generalize w1.drew = w2 at *
  have s0 := t0
  have s1 := t1
  have s2 := t2
  clear t0 t1 t2
  go_wp2_with fail
  refine (H1.out _ O2.out).mono ?_
  rintro r w' ⟨rfl, rfl⟩
  go_wp2_with fail
  refine (HG.out _ O2.out).mono ?_
  rintro r w5 ⟨g', rfl, hg1, -, hg2⟩
  have O5 : Hid (Only [] w w5) := Lib.hid (O2.out.trans hg2)
  have t0 : w5.cell? ⟨b, 3, none⟩ = some (.int .i64 x) := hg2.cell s0 (by simp)
  have t1 : w5.cell? ⟨b, 4, none⟩ = some (.int .i64 0) := hg2.cell s1 (by simp)
  have t2 : w5.cell? ⟨p, 2, none⟩ = some (.int .i64 side) := hg2.cell s2 (by simp)
  have G5 := Lib.hid hg1
  clear s0 s1 s2 hg1 hg2
  have s0 := t0
  have s1 := t1
  have s2 := t2
  clear t0 t1 t2
  go_wp2_with fail
  go_still_tail 10, (by kernel_rfl)
  change wpList _ _ _ _ _ w5.drew
  have t0 : w5.drew.cell? ⟨b, 3, none⟩ = some (.int .i64 x) := s0
  have t1 : w5.drew.cell? ⟨b, 4, none⟩ = some (.int .i64 0) := s1
  have t2 : w5.drew.cell? ⟨p, 2, none⟩ = some (.int .i64 side) := s2
  have G3 : Hid (w5.drew.heap[g']? = some (.cells (ints (getL pl pw X1 0 0 1 side)) 3 (0, 0))) := Lib.hid G5.out
  clear G5
  have O3 : Hid (Only [] w w5.drew) := Lib.hid O5.out.drew
  clear s0 s1 s2
  generalize w5.drew = w3 at *
  have s0 := t0
  have s1 := t1
  have s2 := t2
  clear t0 t1 t2
  go_wp2_with fail
  refine (H2.out _ O3.out).mono ?_
  rintro r w' ⟨rfl, rfl⟩
  go_wp2_with fail
  go_still_tail 11, (by kernel_rfl)
  change wpList _ _ _ _ _ w3.drew
  have t0 : w3.drew.cell? ⟨b, 3, none⟩ = some (.int .i64 x) := s0
  have t1 : w3.drew.cell? ⟨b, 4, none⟩ = some (.int .i64 0) := s1
  have t2 : w3.drew.cell? ⟨p, 2, none⟩ = some (.int .i64 side) := s2
  have G7 : Hid (w3.drew.heap[g']? = some (.cells (ints (getL pl pw X1 0 0 1 side)) 3 (0, 0))) := Lib.hid G3.out
  clear G3
  have O4 : Hid (Only [] w w3.drew) := Lib.hid O3.out.drew
  clear s0 s1 s2
  generalize w3.drew = w4 at *
  have s0 := t0
  have s1 := t1
  have s2 := t2
  clear t0 t1 t2
  go_wp2_with fail
  have G6 : Hid (w4.heap[g']? = some (.cells (ints (getL pl pw X1 0 0 1 side)) 3 (0, 0))) := G7
  refine (H3.out _ O4.out).mono ?_
  rintro r w' ⟨rfl, rfl⟩
  go_wp2
  go_ret3
  exact ⟨g', rfl, G6.out, O4.out⟩
end Go.Proofs.YtcmehedjdfopdaaGreat

namespace Go.Proofs.YtcmehedjdfopdaaGreat
open Go.RowKit

set_option maxHeartbeats 800000 in
theorem qu_class (k : Nat) (hk : k < 16) : ∃ y : Nat, y < 3 ∧ ∀ w : World, Calls Tryz.prog 151 #[.int .i64 (k : Int)] w fun e w' => e = .returned (.int .i64 (y : Int)) ∧ w = w' := by
  by_cases h0 : (k : Int) / 4 % 2 = 0
  · by_cases h1 : (k : Int) % 4 % 2 = 0
    · refine ⟨0, by omega, fun w => ?_⟩
      go_enter Tryz.func151, Tryz.ntmps151
      go_wp2
      go_ret
      exact ⟨rfl, rfl⟩
    · have h2 : ((k : Int) % 4 % 2 == 0) = false := by simp; omega
      refine ⟨2, by omega, fun w => ?_⟩
      go_enter Tryz.func151, Tryz.ntmps151
      go_wp2
      go_ret
      exact ⟨rfl, rfl⟩
  · have h3 : (k : Int) / 4 % 2 = 1 := by omega
    clear h0
    by_cases h1 : (k : Int) % 4 % 2 = 1
    · refine ⟨1, by omega, fun w => ?_⟩
      go_enter Tryz.func151, Tryz.ntmps151
      go_wp2
      go_ret
      exact ⟨rfl, rfl⟩
    · have h2 : ((k : Int) % 4 % 2 == 1) = false := by simp; omega
      refine ⟨2, by omega, fun w => ?_⟩
      go_enter Tryz.func151, Tryz.ntmps151
      go_wp2
      go_ret
      exact ⟨rfl, rfl⟩

/-- A row by value as a slice of it. -/
theorem IntSlice.of_row {w : World} {g : Nat} {e : TypeId} {xs : List Int} {n : Nat} (h : w.heap[g]? = some (.cells (ints xs) e (0, 0))) (hn : xs.length = n) : IntSlice w (.slice (some ⟨g, 0, none⟩) n n) xs := by
  subst hn
  exact IntSlice.of_block h
theorem getD_rep0 (n i : Nat) : (List.replicate n (0 : Int)).getD i 0 = 0 := by
  simp only [List.getD, List.getElem?_replicate]
  split <;> rfl

set_option maxRecDepth 100000 in
set_option maxHeartbeats 3200000 in
theorem qu_dequant0 (qp : Int) (w : World) (q0 : 0 ≤ qp) (q1 : qp ≤ 51) :
    Calls Tryz.prog 106 #[.agg (ints (List.replicate 16 0)), .int .i64 qp] w fun e w' => e = .returned (.tuple #[.agg (ints (List.replicate 16 0)), .int .i64 0]) ∧ Only [] w w' := by
  have hA := heap_alloc2_old w (.cells (ints (List.replicate 16 0)) 36) (.cells #[.int .i64 0, .int .i64 0, .int .i64 0, .int .i64 0, .int .i64 0, .int .i64 0, .int .i64 0, .int .i64 0, .int .i64 0, .int .i64 0, .int .i64 0, .int .i64 0, .int .i64 0, .int .i64 0, .int .i64 0, .int .i64 0] 36)
  have hB := heap_alloc2_new w (.cells (ints (List.replicate 16 0)) 36) (.cells #[.int .i64 0, .int .i64 0, .int .i64 0, .int .i64 0, .int .i64 0, .int .i64 0, .int .i64 0, .int .i64 0, .int .i64 0, .int .i64 0, .int .i64 0, .int .i64 0, .int .i64 0, .int .i64 0, .int .i64 0, .int .i64 0] 36)
  have hO : Only [] w ((w.alloc (.cells (ints (List.replicate 16 0)) 36)).alloc (.cells #[.int .i64 0, .int .i64 0, .int .i64 0, .int .i64 0, .int .i64 0, .int .i64 0, .int .i64 0, .int .i64 0, .int .i64 0, .int .i64 0, .int .i64 0, .int .i64 0, .int .i64 0, .int .i64 0, .int .i64 0, .int .i64 0] 36)) := ((Only.refl [] w).alloc _).alloc _
  obtain ⟨Z, hZ⟩ : ∃ z, z = ints (List.replicate 16 0) := ⟨_, rfl⟩
  have hzs : Z.size = 16 := by rw [hZ]; rfl
  have hz1 : Z.all (·.oneCell') = true := by rw [hZ]; exact ints_one _
  have hm := fun (wx : World) (hx : wx.heap[w.heap.size]? = some (.cells (ints (List.replicate 16 0)) 36 (0, 0))) => qu_may qp 32767 (.slice (some ⟨w.heap.size, 0, none⟩) 16 16) (List.replicate 16 0) wx (IntSlice.of_row hx (by simp)) (by simp) (fun i _ => by rw [getD_rep0]; omega) (by omega) (by omega) q0 q1
  obtain ⟨b, hb, hb6⟩ : ∃ b : Nat, qp % 6 = (b : Int) ∧ b < 6 := ⟨(qp % 6).toNat, by omega, by omega⟩
  obtain ⟨a, ha, ha9⟩ : ∃ a : Nat, qp / 6 = (a : Int) ∧ a < 9 := ⟨(qp / 6).toNat, by omega, by omega⟩
  have HA := Lib.hid hA
  have HB := Lib.hid hB
  have HO := Lib.hid hO
  have HM := Lib.hid hm
  have Hzs := Lib.hid hzs
  have Hz1 := Lib.hid hz1
  have HZ := Lib.hid hZ
  rw [← hZ] at HA HO HM
  rw [← hZ]
  clear hA hB hO hm hzs hz1 hZ
  go_enter Tryz.func106, Tryz.ntmps106
  go_wp2_with fail
  refine (HM.out _ HA.out).mono ?_
  rintro r w1 ⟨rfl, rfl⟩
  clear HA HB HO HM
  go_wp2_with fail
  refine (qu_get (w.heap.size + 1 + 1) _ (heap3_2 _ _ _ _)).mono ?_
  rintro r w2 ⟨rfl, g1, g2⟩
  have T2 := Lib.hid g1
  have A2 := Lib.hid (g2.heap (heap3_0 _ _ _ _) (by simp <;> omega))
  have B2 := Lib.hid (g2.heap (heap3_1 _ _ _ _) (by simp <;> omega))
  have O2 : Hid (Only [] w w2) := Lib.hid ((only3 _ _ _ _).trans' g2 (by simp <;> omega))
  have R2 := Lib.hid (range_once (o := 18 + b * 3) (n := 3) g1)
  have hs2 : w.heap.size + 1 + 1 < w2.heap.size := lt_of_block g1
  obtain ⟨y0, y1, y2, hy⟩ : ∃ y0 y1 y2 : Int, ((quRest qmL qvL qcL).drop (18 + b * 3)).take 3 = [.int .i64 y0, .int .i64 y1, .int .i64 y2] := by
    rcases (show b = 0 ∨ b = 1 ∨ b = 2 ∨ b = 3 ∨ b = 4 ∨ b = 5 by omega) with rfl | rfl | rfl | rfl | rfl | rfl <;> exact ⟨_, _, _, rfl⟩
  rw [hy, show 3 + (18 + b * 3) = 21 + b * 3 by omega] at R2
  clear g1 g2 hy
  go_wp2_with (with_reducible refine wpList_load_mid rfl _ _ rfl _ _ rfl _ _ R2.out Tryz.underlying59 rfl (by kernel_rfl) ?_)
  go_loopw [22] (fun q wr => ∃ k : Nat, k ≤ 16 ∧ q = .int .i64 k ∧ wr.heap[w.heap.size]? = some (.cells Z 36 (0, 0)) ∧ (∃ z : Array Value, z.size = 16 ∧ wr.heap[w.heap.size + 1]? = some (.cells z 36 (0, 0))) ∧ wr.heap[w2.heap.size]? = some (.cells (ints [y0, y1, y2]) 59 (0, 0)) ∧ Only [] w wr) (fun q _ => 16 - (intOf q).toNat)
  case atStart => exact ⟨0, by omega, rfl, heap_alloc_lt _ A2.out, ⟨_, rfl, heap_alloc_lt _ B2.out⟩, heap_alloc_at w2 _, O2.out.alloc _⟩
  case round =>
    obtain ⟨k, hk, rfl, hbz, ⟨z, hz, hr⟩, hv, ho⟩ := hrel
    by_cases hlt : k < 16
    · obtain ⟨y, hy3, hcl⟩ := qu_class k hlt
      have Hcl := Lib.hid hcl
      have c1 : wr.cell? ⟨w.heap.size, k, none⟩ = some (.int .i64 0) := by
        rw [cells_of hbz, HZ.out, ints_at _ _ (by simpa using hlt), getD_rep0]
      have z1 := free_of hbz k
      obtain ⟨yv, hyv⟩ : ∃ yv, yv = ([y0, y1, y2] : List Int).getD y 0 := ⟨_, rfl⟩
      have c2 : wr.cell? ⟨w2.heap.size, y, none⟩ = some (.int .i64 yv) := by rw [cells_of hv, ints_at _ _ (by simpa using hy3), hyv]
      have hs := heap_set_same (i := k) (.int .i64 0) hbz
      rw [show Z.setIfInBounds k (.int .i64 0) = Z by rw [HZ.out, ints_setIf]; congr 1; have := set_getD (List.replicate 16 0) k; rwa [getD_rep0] at this] at hs
      have S1 := Lib.hid hs
      have S2 := Lib.hid (heap_set_other (b := w.heap.size) (i := k) (.int .i64 0) hr (by omega))
      have S3 := Lib.hid (heap_set_other (b := w.heap.size) (i := k) (.int .i64 0) hv (by omega))
      have S4 := Lib.hid (ho.setCell (p := ⟨w.heap.size, k, none⟩) (.inr (Nat.le_refl _)) (.int .i64 0))
      have b1 : (y : Int) < 3 := by omega
      have b2 : (k : Int) < 16 := by omega
      clear hs hbz hr hv ho hyv hcl
      have qa : IntKind.i64.wrap (qp.tdiv 6) = (a : Int) := by
        rw [Int.tdiv_eq_ediv_of_nonneg q0, ha]
        exact IntWalk.i64_in _ (by omega)
      have w0 : IntKind.i64.wrap 0 = 0 := by decide
      go_wp2
      go_still_tail 12, (by kernel_rfl)
      still_call ((Hcl.out _).mono fun _ _ h => ⟨h.1, h.2.symm⟩)
      repeat still_step
      refine wpStill_nil ?_
      change wpList _ _ _ _ _ wr.drew
      go_wp2
      go_roundw
      case rel => exact ⟨k + 1, by omega, by go_num, S1.out, ⟨z, hz, S2.out⟩, S3.out, S4.out.drew⟩
      case measure => simp [intOf] <;> omega
    · have hk' : k = 16 := by omega
      subst hk'
      have S1 := Lib.hid hbz
      have S2 := Lib.hid hr
      have H0 := Lib.hid ho
      have Hz2 := Lib.hid hz
      clear hbz hr hv ho hz
      go_wp2_with (first
        | (with_reducible refine wpList_load_row rfl _ _ rfl _ rfl _ _ _ _ S1.out Tryz.underlying36 rfl (by rw [Hzs.out]; kernel_rfl) ?_)
        | (refine wpList_store_agg rfl _ _ _ rfl _ _ rfl rfl S2.out (by rw [Hzs.out]; kernel_rfl) (by rw [Hz2.out, Hzs.out]) Hz1.out ?_))
      intro w8 hw8 ho8
      have W8 := Lib.hid hw8
      have O8 := Lib.hid (H0.out.trans' ho8 (by simp))
      clear hw8 ho8
      go_wp2
      refine ret_cell_tmp rfl _ _ rfl rfl W8.out Tryz.underlying36 rfl (by rw [Hzs.out]; kernel_rfl) rfl ⟨rfl, O8.out⟩
end Go.Proofs.YtcmehedjdfopdaaGreat

namespace Go.Proofs.YtcmehedjdfopdaaGreat
open Go.RowKit

def blkX (k : Nat) : Nat := k / 4 % 2 * 2 + k % 4 % 2
def blkY (k : Nat) : Nat := k / 4 / 2 * 2 + k % 4 / 2
theorem blk_lt (k : Nat) (hk : k < 16) : blkX k < 4 ∧ blkY k < 4 := by unfold blkX blkY; omega

set_option maxRecDepth 100000 in
theorem syn_block (k : Nat) (w : World) (hk : k < 16) :
    Calls Tryz.prog 80 #[.int .i64 (k : Int)] w fun e w' => e = .returned (.tuple #[.int .i64 (blkX k : Int), .int .i64 (blkY k : Int)]) ∧ w = w' := by
  obtain ⟨X, hX⟩ : ∃ X : Int, X = (blkX k : Int) := ⟨_, rfl⟩
  obtain ⟨Y, hY⟩ : ∃ Y : Int, Y = (blkY k : Int) := ⟨_, rfl⟩
  rw [← hX, ← hY]
  unfold blkX at hX
  unfold blkY at hY
  obtain ⟨a, ha⟩ : ∃ a : Int, (k : Int) / 4 = a := ⟨_, rfl⟩
  obtain ⟨c, hc⟩ : ∃ c : Int, (k : Int) % 4 = c := ⟨_, rfl⟩
  have hX2 : a % 2 * 2 + c % 2 = X := by omega
  have hY2 : a / 2 * 2 + c / 2 = Y := by omega
  have ha2 : 0 ≤ a ∧ a ≤ 3 := by omega
  have hc2 : 0 ≤ c ∧ c ≤ 3 := by omega
  clear hX hY
  go_enter Tryz.func80, Tryz.ntmps80
  go_wp2
  go_ret2
  exact ⟨rfl, rfl⟩
end Go.Proofs.YtcmehedjdfopdaaGreat
