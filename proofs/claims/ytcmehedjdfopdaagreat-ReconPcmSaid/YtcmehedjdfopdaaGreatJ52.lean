/-
  What edges do where all macroblocks were told by samples: nothing; plain facts of a plane's places. The walk over package recon's Canvas.Filter where all macroblocks were told by samples.
-/
import Derived.Test.YtcmehedjdfopdaaGreatJ51
import Derived.Test.YtcmehedjdfopdaaGreatJ28
import Derived.Test.YtcmehedjdfopdaaGreatJ31
import Derived.WalkMore
namespace Go.Proofs.YtcmehedjdfopdaaGreat
open Go Go.RowKit

theorem lines_in {pw ph X Y nn along across len : Nat} (hl : len = pw * ph) (h1 : X + nn ≤ pw) (h2 : Y + nn ≤ ph) (h : along = pw ∧ across = 1 ∧ 4 ≤ X ∧ X + 4 ≤ pw ∨ along = 1 ∧ across = pw ∧ 4 ≤ Y ∧ Y + 4 ≤ ph) :
    ∀ i k, i < nn → k < 4 → (k + 1) * across ≤ (Y * pw + X) + i * along ∧ (Y * pw + X) + i * along + k * across < len := by
  intro i k hi hk
  rcases h with ⟨rfl, rfl, h3, h4⟩ | ⟨rfl, rfl, h3, h4⟩
  · have e : (Y + i + 1) * along ≤ ph * along := Nat.mul_le_mul_right _ (by omega)
    rw [Nat.mul_comm] at hl
    have e2 : (Y + i + 1) * along = Y * along + i * along + along := by rw [Nat.add_mul, Nat.add_mul, Nat.one_mul]
    generalize Y * along = a at *
    generalize i * along = b at *
    omega
  · have e : (Y + k + 1) * across ≤ ph * across := Nat.mul_le_mul_right _ (by omega)
    have e3 : (k + 1) * across ≤ Y * across := Nat.mul_le_mul_right _ (by omega)
    rw [Nat.mul_comm] at hl
    have e2 : (Y + k + 1) * across = Y * across + k * across + across := by rw [Nat.add_mul, Nat.add_mul, Nat.one_mul]
    generalize (k + 1) * across = c at *
    generalize Y * across = a at *
    generalize k * across = b at *
    omega

theorem strength_gives {w : World} {ab n sb : Nat} (hd : ∀ a, a < n → DrwAt w ⟨ab, a * 23, none⟩ sb 2 0) : StrengthGives w ab n (fun s => 1 ≤ s) := by
  intro wx ho a b i1 i2 bo ha hb
  refine (re_strength ((hd a ha).only ho (by simp)) (.inr (.inr rfl)) bo).mono ?_
  rintro e w' ⟨rfl, o⟩
  cases bo
  · exact ⟨3, rfl, by simp, by omega, o⟩
  · exact ⟨4, rfl, by simp, by omega, o⟩

theorem lines_keep {w : World} {fb po g lb tb sb ab n cap pw ph nn : Nat} {Y : List Int} (ch : Bool) (hF : FilAt w fb lb tb sb) (hps : w.cell? ⟨fb, po, none⟩ = some (.slice (some ⟨g, 0, none⟩) Y.length cap)) (hY : SmpAt w g Y) (hd : ∀ a, a < n → DrwAt w ⟨ab, a * 23, none⟩ sb 2 0)
    (hnn : nn ≤ 16) (hpw : pw ≤ 960) (hph : ph ≤ 960) (hl : Y.length = pw * ph) : LinesKeep w fb po ab n pw ph nn ch (fun s => 1 ≤ s) := by
  intro wx ho a b X Yr along across i1 i2 bs ha hb hR hb0 h1 h2 hor
  have hm : pw * ph ≤ 960 * 960 := Nat.mul_le_mul hpw hph
  have hm2 : (Yr + 1) * pw ≤ ph * pw ∨ nn = 0 := by
    by_cases h : nn = 0
    · exact .inr h
    · exact .inl (Nat.mul_le_mul_right _ (by omega))
  have hm3 : Yr * pw ≤ ph * pw := Nat.mul_le_mul_right _ (by omega)
  rw [Nat.mul_comm ph pw] at hm3
  refine fl_lines0 ch (hF.only ho (by simp) (by simp) (by simp) (by simp)) (ho.cell hps (by simp)) (hY.only ho (by simp)) ((hd a ha).only ho (by simp)) ((hd b hb).only ho (by simp)) hR hnn ?_ ?_ (by rw [hl]; omega) (lines_in hl h1 h2 hor)
  · rcases hor with ⟨rfl, -⟩ | ⟨rfl, -⟩ <;> omega
  · omega

theorem edges_keep {w : World} {fb cb ab wide high n cap pw side nn k x y step : Nat} {R : Int → Prop} (hf : w.cell? ⟨fb, 0, none⟩ = some (.pointer (some ⟨cb, 0, none⟩))) (hw : w.cell? ⟨cb, 0, none⟩ = some (.int .i64 wide)) (ha : w.cell? ⟨cb, 7, none⟩ = some (.slice (some ⟨ab, 0, none⟩) n cap))
    (hk : k < 3) (h1 : w.cell? ⟨fb, 2 + 3 * k + 1, none⟩ = some (.int .i64 pw)) (h2 : w.cell? ⟨fb, 2 + 3 * k + 2, none⟩ = some (.int .i64 side)) (hside : side / 4 = nn) (hs16 : side ≤ 16) (hpw : pw = 4 * wide * nn) (hn : n = wide * high) (hw60 : wide ≤ 60) (hh60 : high ≤ 60)
    (hx : x < wide) (hy : y < high) (hst : nn = 4 ∧ step = 1 ∨ nn = 2 ∧ step = 2)
    (hS : StrengthGives w ab n R) (hL : LinesKeep w fb (2 + 3 * k) ab n pw (4 * high * nn) nn (decide (0 < k)) R) : EdgesKeep w fb x y k step := by
  intro wx ho e u he hes hu hl
  have c0 := ho.cell hf (by simp)
  have c1 := ho.cell hw (by simp)
  have c2 := ho.cell ha (by simp)
  have c3 := ho.cell h1 (by simp)
  have c4 := ho.cell h2 (by simp)
  cases u
  · have h := hl rfl
    refine (fl_edge_lv c0 c1 c2 hk c3 c4 hside hs16 hpw hn hw60 hh60 hx hy he ?_ ?_ (hS.only ho) (hL.only ho)).mono fun r w' ⟨a, b⟩ => ⟨a, b⟩
    · rcases hst with ⟨rfl, rfl⟩ | ⟨rfl, rfl⟩ <;> omega
    · rcases hst with ⟨rfl, rfl⟩ | ⟨rfl, rfl⟩ <;> omega
  · have h := hu rfl
    refine (fl_edge_up c0 c1 c2 hk c3 c4 hside hs16 hpw hn hw60 hh60 hx hy he ?_ ?_ (hS.only ho) (hL.only ho)).mono fun r w' ⟨a, b⟩ => ⟨a, b⟩
    · rcases hst with ⟨rfl, rfl⟩ | ⟨rfl, rfl⟩ <;> omega
    · rw [hpw]
      rcases hst with ⟨rfl, rfl⟩ | ⟨rfl, rfl⟩ <;> omega
/-- Macroblocks' edges stay. -/
def MbKeeps (w : World) (fb wide high : Nat) : Prop :=
  ∀ wx, Only [] w wx → ∀ x y k : Nat, x < wide → y < high → k < 3 → Calls Tryz.prog 44 #[.pointer (some ⟨fb, 0, none⟩), .int .i64 x, .int .i64 y, .int .i64 k] wx fun r w' => r = .returned (.tuple #[]) ∧ Only [] wx w'

theorem mb_keeps {w : World} {fb cb ab wide high n cap lb tb sb gy gu gv cy cu cv : Nat} {Y U V : List Int} (hf : w.cell? ⟨fb, 0, none⟩ = some (.pointer (some ⟨cb, 0, none⟩))) (hw : w.cell? ⟨cb, 0, none⟩ = some (.int .i64 wide)) (ha : w.cell? ⟨cb, 7, none⟩ = some (.slice (some ⟨ab, 0, none⟩) n cap))
    (hF : FilAt w fb lb tb sb) (hd : ∀ a, a < n → DrwAt w ⟨ab, a * 23, none⟩ sb 2 0) (hn : n = wide * high) (hw60 : wide ≤ 60) (hh60 : high ≤ 60)
    (hy : SmpAt w gy Y) (hu : SmpAt w gu U) (hv : SmpAt w gv V) (ly : Y.length = 16 * wide * (16 * high)) (lu : U.length = 8 * wide * (8 * high)) (lv : V.length = 8 * wide * (8 * high))
    (p0 : w.cell? ⟨fb, 2, none⟩ = some (.slice (some ⟨gy, 0, none⟩) Y.length cy)) (p1 : w.cell? ⟨fb, 3, none⟩ = some (.int .i64 ((16 * wide : Nat) : Int))) (p2 : w.cell? ⟨fb, 4, none⟩ = some (.int .i64 16))
    (p3 : w.cell? ⟨fb, 5, none⟩ = some (.slice (some ⟨gu, 0, none⟩) U.length cu)) (p4 : w.cell? ⟨fb, 6, none⟩ = some (.int .i64 ((8 * wide : Nat) : Int))) (p5 : w.cell? ⟨fb, 7, none⟩ = some (.int .i64 8))
    (p6 : w.cell? ⟨fb, 8, none⟩ = some (.slice (some ⟨gv, 0, none⟩) V.length cv)) (p7 : w.cell? ⟨fb, 9, none⟩ = some (.int .i64 ((8 * wide : Nat) : Int))) (p8 : w.cell? ⟨fb, 10, none⟩ = some (.int .i64 8)) : MbKeeps w fb wide high := by
  intro wx ho x y k hx hy' hk
  have hS := strength_gives hd
  have hL0 := lines_keep (nn := 4) (decide (0 < 0)) hF p0 hy hd (by omega) (by omega : 16 * wide ≤ 960) (by omega : 16 * high ≤ 960) ly
  have hL1 := lines_keep (nn := 2) (decide (0 < 1)) hF p3 hu hd (by omega) (by omega : 8 * wide ≤ 960) (by omega : 8 * high ≤ 960) lu
  have hL2 := lines_keep (nn := 2) (decide (0 < 2)) hF p6 hv hd (by omega) (by omega : 8 * wide ≤ 960) (by omega : 8 * high ≤ 960) lv
  rcases (show k = 0 ∨ k = 1 ∨ k = 2 by omega) with rfl | rfl | rfl
  · refine fl_mb_y (fun wy hwy => edges_keep (k := 0) (side := 16) (nn := 4) (step := 1) hf hw ha (by omega) p1 p2 rfl (by omega) (by omega) hn hw60 hh60 hx hy' (.inl ⟨rfl, rfl⟩) hS ?_ wy (ho.trans hwy))
    rw [show 4 * high * 4 = 16 * high by omega]
    exact hL0
  · refine fl_mb_c (by omega) (fun wy hwy => edges_keep (k := 1) (side := 8) (nn := 2) (step := 2) hf hw ha (by omega) p4 p5 rfl (by omega) (by omega) hn hw60 hh60 hx hy' (.inr ⟨rfl, rfl⟩) hS ?_ wy (ho.trans hwy))
    rw [show 4 * high * 2 = 8 * high by omega]
    exact hL1
  · refine fl_mb_c (by omega) (fun wy hwy => edges_keep (k := 2) (side := 8) (nn := 2) (step := 2) hf hw ha (by omega) p7 p8 rfl (by omega) (by omega) hn hw60 hh60 hx hy' (.inr ⟨rfl, rfl⟩) hS ?_ wy (ho.trans hwy))
    rw [show 4 * high * 2 = 8 * high by omega]
    exact hL2
end Go.Proofs.YtcmehedjdfopdaaGreat

namespace Go.Proofs.YtcmehedjdfopdaaGreat
open Go Go.RowKit

theorem smp_own {w : World} {B k g n cap : Nat} {xs : List Int} (h : w.ownsRow B 5 1 (.slice (some ⟨g, 0, none⟩) n cap) k (xs.map (Value.int .u8))) (ok : okPl xs) (hk : xs.length = k) (k0 : 0 < k) : SmpAt w g xs := by
  rcases h.2 with ⟨_, h0⟩ | ⟨g', cap', cur, hv, _, hg, _, _, _, ht⟩
  · omega
  · injection hv with h1 h2 h3
    injection h1 with h1
    injection h1 with h1
    subst h1 h2 h3
    refine ⟨⟨(cur.toList.drop (n * 1)).toArray, ?_⟩, ok⟩
    rw [hg, u8s, ← ht]
    congr 2
    apply Array.ext'
    simp
theorem BytesAt.smp {w : World} {g n cap : Nat} {xs : List Int} (h : SmpAt w g xs) (hn : xs.length = n) : BytesAt w (.slice (some ⟨g, 0, none⟩) n cap) xs :=
  ⟨g, cap, by rw [hn], fun i hi => h.at i hi⟩
/-- What Filter reads of a slice. -/
structure SlcAt (w : World) (sb : Nat) (de : Bool) : Prop where
  so : w.cell? ⟨sb, 18, none⟩ = some (.bool false)
  sd : w.cell? ⟨sb, 27, none⟩ = some (.bool de)
  sa : w.cell? ⟨sb, 19, none⟩ = some (.int .i64 0)
  sc : w.cell? ⟨sb, 20, none⟩ = some (.int .i64 0)
  sq : w.cell? ⟨sb, 25, none⟩ = some (.int .i64 0)

set_option maxRecDepth 100000 in
set_option maxHeartbeats 3200000 in
theorem canvas_filter {w : World} {cb yb ub vb cy cu cv wide high n cap ab sb ny nu nv : Nat} {Y U V : List Int} {cur : Value} {aft : Int} {de : Bool} (hc : CanAt w cb yb ub vb cy cu cv wide high Y U V (.slice (some ⟨ab, 0, none⟩) n cap) cur aft) (ey : Y.length = ny) (eu : U.length = nu) (ev : V.length = nv)
    (hw0 : 1 ≤ wide) (hh0 : 1 ≤ high) (hw60 : wide ≤ 60) (hh60 : high ≤ 60) (hn : n = wide * high) (ly : ny = 16 * wide * (16 * high)) (lu : nu = 8 * wide * (8 * high)) (lv : nv = 8 * wide * (8 * high))
    (hd : ∀ a, a < n → DrwAt w ⟨ab, a * 23, none⟩ sb 2 0) (hs : SlcAt w sb de) :
    Calls Tryz.prog 25 #[.pointer (some ⟨cb, 0, none⟩)] w fun e w' => ∃ y u v, e = .returned (.agg #[.int .i64 ((16 * wide : Nat) : Int), .int .i64 ((16 * high : Nat) : Int), y, u, v]) ∧ BytesAt w' y Y ∧ BytesAt w' u U ∧ BytesAt w' v V ∧ Only [] w w' := by
  have hm0 : 1 * 1 ≤ wide * high := Nat.mul_le_mul hw0 hh0
  have hm1 : wide * high ≤ 60 * 60 := Nat.mul_le_mul hw60 hh60
  have hA : 16 * wide * (16 * high) = 256 * (wide * high) := by rw [Nat.mul_assoc 16 wide, Nat.mul_left_comm wide 16, ← Nat.mul_assoc]
  have hB : 8 * wide * (8 * high) = 64 * (wide * high) := by rw [Nat.mul_assoc 8 wide, Nat.mul_left_comm wide 8, ← Nat.mul_assoc]
  have y0 : 0 < ny ∧ ny ≤ 1000000 := by omega
  have u0 : 0 < nu ∧ nu ≤ 1000000 := by omega
  have v0 : 0 < nv ∧ nv ≤ 1000000 := by omega
  have hn1 : 1 ≤ n ∧ n ≤ 3600 := by omega
  have hst := hc.st
  rw [ey, eu, ev] at hst
  have s0 : w.cell? ⟨cb, 0, none⟩ = some (.int .i64 wide) := by rw [cells_of hst]; rfl
  have s2 : w.cell? ⟨cb, 2, none⟩ = some (.int .i64 ((16 * wide : Nat) : Int)) := by rw [cells_of hst]; rfl
  have s3 : w.cell? ⟨cb, 3, none⟩ = some (.int .i64 ((16 * high : Nat) : Int)) := by rw [cells_of hst]; rfl
  have s4 : w.cell? ⟨cb, 4, none⟩ = some (.slice (some ⟨yb, 0, none⟩) ny cy) := by rw [cells_of hst]; rfl
  have s5 : w.cell? ⟨cb, 5, none⟩ = some (.slice (some ⟨ub, 0, none⟩) nu cu) := by rw [cells_of hst]; rfl
  have s6 : w.cell? ⟨cb, 6, none⟩ = some (.slice (some ⟨vb, 0, none⟩) nv cv) := by rw [cells_of hst]; rfl
  have s7 : w.cell? ⟨cb, 7, none⟩ = some (.slice (some ⟨ab, 0, none⟩) n cap) := by rw [cells_of hst]; rfl
  have hoy := hc.oy
  have hou := hc.ou
  have hov := hc.ov
  obtain ⟨W, hW⟩ : ∃ W, W = 16 * wide := ⟨_, rfl⟩
  obtain ⟨H, hH⟩ : ∃ H, H = 16 * high := ⟨_, rfl⟩
  rw [← hW] at s2
  rw [← hH] at s3
  rw [← hW, ← hH]
  have hcl := fun (wx : World) (hx : Only [] w wx) => recon_clone (W := (W : Int)) (H := (H : Int)) (cy := cy) (cu := cu) (cv := cv) (SmpAt.only ⟨hc.ys, hc.oy⟩ hx (by simp)) (SmpAt.only ⟨hc.us, hc.ou⟩ hx (by simp)) (SmpAt.only ⟨hc.vs, hc.ov⟩ hx (by simp)) ey eu ev y0.1 u0.1 v0.1 y0.2 u0.2 v0.2
  have Hcl := Lib.hid hcl
  have hcb := lt_of_block hst
  have HW := Lib.hid hW
  have HWn : W ≤ 960 := by omega
  have hW8 : W / 2 = 8 * wide := by omega
  have HW8 := Lib.hid hW8
  have HN := Lib.hid hn
  have HLY := Lib.hid ly
  have HLU := Lib.hid lu
  have HLV := Lib.hid lv
  have EY := Lib.hid ey
  have EU := Lib.hid eu
  have EV := Lib.hid ev
  have HD := Lib.hid hd
  have HS := Lib.hid hs
  have S0 := Lib.hid s0
  have S7 := Lib.hid s7
  have OKY := Lib.hid hoy
  have OKU := Lib.hid hou
  have OKV := Lib.hid hov
  clear hc hst hcl hW hH hm0 hm1 hA hB hW8 hn ly lu lv ey eu ev hd hs hoy hou hov
  go_enter Tryz.func25, Tryz.ntmps25
  go_wp2_with fail
  go_step3
  go_wp2_with fail
  refine (Hcl.out _ ((Only.refl [] w).alloc _)).mono ?_
  rintro e w1 ⟨r1, r2, r3, rfl, o1, o2, o3, g1⟩
  obtain ⟨b1, p1, _, rfl, -⟩ := owned_shape o1 y0.1
  obtain ⟨b2, p2, _, rfl, -⟩ := owned_shape o2 u0.1
  obtain ⟨b3, p3, _, rfl, -⟩ := owned_shape o3 v0.1
  have B1 := Lib.hid (g1.heap (heap_alloc_at w _) (by simp))
  have O1 : Hid (Only [] w w1) := Lib.hid (((Only.refl [] w).alloc _).trans g1)
  have KY := Lib.hid (show SmpAt w1 b1 Y from smp_own o1 OKY.out EY.out y0.1)
  have KU := Lib.hid (show SmpAt w1 b2 U from smp_own o2 OKU.out EU.out u0.1)
  have KV := Lib.hid (show SmpAt w1 b3 V from smp_own o3 OKV.out EV.out v0.1)
  clear o1 o2 o3 g1 s0 s2 s3 s4 s5 s6 s7 Hcl
  go_wp2_with fail
  have F1 := Lib.hid (heap_alloc_at w1 (.cells #[.int .i64 W, .int .i64 H, .slice (some ⟨b1, 0, none⟩) ny p1, .slice (some ⟨b2, 0, none⟩) nu p2, .slice (some ⟨b3, 0, none⟩) nv p3] 54))
  have B2 := Lib.hid (heap_alloc_lt (.cells #[.int .i64 W, .int .i64 H, .slice (some ⟨b1, 0, none⟩) ny p1, .slice (some ⟨b2, 0, none⟩) nu p2, .slice (some ⟨b3, 0, none⟩) nv p3] 54) B1.out)
  have O2 := Lib.hid (O1.out.alloc (.cells #[.int .i64 W, .int .i64 H, .slice (some ⟨b1, 0, none⟩) ny p1, .slice (some ⟨b2, 0, none⟩) nu p2, .slice (some ⟨b3, 0, none⟩) nv p3] 54))
  have OW : Only [] w1 (w1.alloc (.cells #[.int .i64 W, .int .i64 H, .slice (some ⟨b1, 0, none⟩) ny p1, .slice (some ⟨b2, 0, none⟩) nu p2, .slice (some ⟨b3, 0, none⟩) nv p3] 54)) := (Only.refl [] w1).alloc _
  have KY2 := Lib.hid (KY.out.only OW (by simp))
  have KU2 := Lib.hid (KU.out.only OW (by simp))
  have KV2 := Lib.hid (KV.out.only OW (by simp))
  have hz1 := O1.out.size
  have hz2 : w1.heap.size < (w1.alloc (.cells #[.int .i64 W, .int .i64 H, .slice (some ⟨b1, 0, none⟩) ny p1, .slice (some ⟨b2, 0, none⟩) nu p2, .slice (some ⟨b3, 0, none⟩) nv p3] 54)).heap.size := by simp
  clear KY KU KV B1 O1 OW
  generalize w1.alloc (.cells #[.int .i64 W, .int .i64 H, .slice (some ⟨b1, 0, none⟩) ny p1, .slice (some ⟨b2, 0, none⟩) nu p2, .slice (some ⟨b3, 0, none⟩) nv p3] 54) = w2 at *
  generalize hfr : w1.heap.size = fr at *
  clear hfr
  refine (ed_new w2).mono ?_
  rintro e w3 ⟨lb, tb, rfl, l1, l2, hl0, ht3, ht55, o3⟩
  have F3 := o3.heap F1.out (by simp)
  have c0 : w3.cell? ⟨fr, 0, none⟩ = some (.int .i64 W) := by rw [cells_of F3]; rfl
  have c2 : w3.cell? ⟨fr, 0 + 2, none⟩ = some (.slice (some ⟨b1, 0, none⟩) ny p1) := by rw [cells_of F3]; rfl
  have c3 : w3.cell? ⟨fr, 0 + 3, none⟩ = some (.slice (some ⟨b2, 0, none⟩) nu p2) := by rw [cells_of F3]; rfl
  have c4 : w3.cell? ⟨fr, 0 + 4, none⟩ = some (.slice (some ⟨b3, 0, none⟩) nv p3) := by rw [cells_of F3]; rfl
  have hpl := recon_planes fr 0 W _ _ _ w3 c0 c2 c3 c4 (by omega) ⟨_, _, _, rfl⟩ ⟨_, _, _, rfl⟩ ⟨_, _, _, rfl⟩
  obtain ⟨W2, hW2⟩ : ∃ W2, W2 = 8 * wide := ⟨_, rfl⟩
  have hWd : (W : Int) / 2 = (W2 : Int) := by have := HW8.out; omega
  simp only [planesV, hWd] at hpl
  have HPL := Lib.hid hpl
  have F4 := Lib.hid F3
  have B3 := Lib.hid (o3.heap B2.out (by simp))
  have O3 := Lib.hid (O2.out.trans o3)
  have KY3 := Lib.hid (KY2.out.only o3 (by simp))
  have KU3 := Lib.hid (KU2.out.only o3 (by simp))
  have KV3 := Lib.hid (KV2.out.only o3 (by simp))
  have L0 := Lib.hid hl0
  have T3 := Lib.hid ht3
  have T55 := Lib.hid ht55
  have hz3 := o3.size
  have HW2 := Lib.hid hW2
  clear hpl c0 c2 c3 c4 hWd F3 B2 O2 KY2 KU2 KV2 hl0 ht3 ht55 o3 l1 l2 F1 HW8 hW2
  go_wp2_with fail
  refine HPL.out.mono ?_
  rintro e w4 ⟨rfl, o4⟩
  have F5 := Lib.hid (o4.heap F4.out (by simp))
  have B4 := Lib.hid (o4.heap B3.out (by simp))
  have O4 := Lib.hid (O3.out.trans o4)
  have KY4 := Lib.hid (KY3.out.only o4 (by simp))
  have KU4 := Lib.hid (KU3.out.only o4 (by simp))
  have KV4 := Lib.hid (KV3.out.only o4 (by simp))
  have L4 := Lib.hid (o4.cell L0.out (by simp))
  have T4 := Lib.hid (o4.cell T3.out (by simp))
  have T5 := Lib.hid (o4.cell T55.out (by simp))
  have hz4 := o4.size
  clear HPL F4 B3 O3 KY3 KU3 KV3 L0 T3 T55 o4
  go_wp2_with fail
  have hfb0 := heap_alloc_at w4 (.cells #[.pointer (some ⟨cb, 0, none⟩), .pointer (some ⟨lb, 0, none⟩), .slice (some ⟨b1, 0, none⟩) ny p1, .int .i64 W, .int .i64 16, .slice (some ⟨b2, 0, none⟩) nu p2, .int .i64 W2, .int .i64 8, .slice (some ⟨b3, 0, none⟩) nv p3, .int .i64 W2, .int .i64 8] 122)
  have F6 := Lib.hid (heap_alloc_lt (.cells #[.pointer (some ⟨cb, 0, none⟩), .pointer (some ⟨lb, 0, none⟩), .slice (some ⟨b1, 0, none⟩) ny p1, .int .i64 W, .int .i64 16, .slice (some ⟨b2, 0, none⟩) nu p2, .int .i64 W2, .int .i64 8, .slice (some ⟨b3, 0, none⟩) nv p3, .int .i64 W2, .int .i64 8] 122) F5.out)
  have B6 := Lib.hid (heap_alloc_lt (.cells #[.pointer (some ⟨cb, 0, none⟩), .pointer (some ⟨lb, 0, none⟩), .slice (some ⟨b1, 0, none⟩) ny p1, .int .i64 W, .int .i64 16, .slice (some ⟨b2, 0, none⟩) nu p2, .int .i64 W2, .int .i64 8, .slice (some ⟨b3, 0, none⟩) nv p3, .int .i64 W2, .int .i64 8] 122) B4.out)
  have OW : Only [] w4 (w4.alloc (.cells #[.pointer (some ⟨cb, 0, none⟩), .pointer (some ⟨lb, 0, none⟩), .slice (some ⟨b1, 0, none⟩) ny p1, .int .i64 W, .int .i64 16, .slice (some ⟨b2, 0, none⟩) nu p2, .int .i64 W2, .int .i64 8, .slice (some ⟨b3, 0, none⟩) nv p3, .int .i64 W2, .int .i64 8] 122)) := (Only.refl [] w4).alloc _
  have O6 := Lib.hid (O4.out.trans OW)
  have KY6 := Lib.hid (KY4.out.only OW (by simp))
  have KU6 := Lib.hid (KU4.out.only OW (by simp))
  have KV6 := Lib.hid (KV4.out.only OW (by simp))
  have L6 := Lib.hid (OW.cell L4.out (by simp))
  have T6 := Lib.hid (OW.cell T4.out (by simp))
  have T7 := Lib.hid (OW.cell T5.out (by simp))
  clear OW F5 B4 O4 KY4 KU4 KV4 L4 T4 T5
  generalize w4.alloc (.cells #[.pointer (some ⟨cb, 0, none⟩), .pointer (some ⟨lb, 0, none⟩), .slice (some ⟨b1, 0, none⟩) ny p1, .int .i64 W, .int .i64 16, .slice (some ⟨b2, 0, none⟩) nu p2, .int .i64 W2, .int .i64 8, .slice (some ⟨b3, 0, none⟩) nv p3, .int .i64 W2, .int .i64 8] 122) = w5 at *
  have hzf : w4.heap.size < w5.heap.size := lt_of_block hfb0
  generalize hfbn : w4.heap.size = fb at *
  clear hfbn
  have hM : MbKeeps w5 fb wide high := by
    have hfb := hfb0
    have f1 : w5.cell? ⟨fb, 1, none⟩ = some (.pointer (some ⟨lb, 0, none⟩)) := by rw [cells_of hfb]; rfl
    have hF : FilAt w5 fb lb tb sb := ⟨f1, L6.out, T6.out, T7.out, O6.out.cell HS.out.sa (by simp), O6.out.cell HS.out.sc (by simp), O6.out.cell HS.out.sq (by simp)⟩
    refine mb_keeps (cb := cb) (n := n) (cy := p1) (cu := p2) (cv := p3) (Y := Y) (U := U) (V := V) (by rw [cells_of hfb]; rfl) (O6.out.cell S0.out (by simp)) (O6.out.cell S7.out (by simp)) hF (fun a ha => (HD.out a ha).only O6.out (by simp)) HN.out hw60 hh60 KY6.out KU6.out KV6.out (by rw [EY.out]; exact HLY.out) (by rw [EU.out]; exact HLU.out) (by rw [EV.out]; exact HLV.out) ?_ ?_ ?_ ?_ ?_ ?_ ?_ ?_ ?_
    · rw [cells_of hfb, EY.out]; rfl
    · rw [cells_of hfb, ← HW.out]; rfl
    · rw [cells_of hfb]; rfl
    · rw [cells_of hfb, EU.out]; rfl
    · rw [cells_of hfb, ← HW2.out]; rfl
    · rw [cells_of hfb]; rfl
    · rw [cells_of hfb, EV.out]; rfl
    · rw [cells_of hfb, ← HW2.out]; rfl
    · rw [cells_of hfb]; rfl
  have HM := Lib.hid hM
  have s0 : w5.cell? ⟨cb, 0, none⟩ = some (.int .i64 wide) := O6.out.cell S0.out (by simp)
  have s7 : w5.cell? ⟨cb, 7, none⟩ = some (.slice (some ⟨ab, 0, none⟩) n cap) := O6.out.cell S7.out (by simp)
  clear hM hfb0 L6 T6 T7 HW2
  go_step3
  go_wp2
  go_loopw [26] (fun q wr => ∃ i : Nat, i ≤ n ∧ q = .int .i64 i ∧ Only [] w5 wr) (fun q _ => n - (intOf q).toNat)
  case atStart => exact ⟨0, Nat.zero_le _, rfl, Only.refl [] w5⟩
  case round =>
    obtain ⟨i, hi, rfl, ho⟩ := hrel
    by_cases hlt : i < n
    · have hlt2 : (i : Int) < (n : Int) := by omega
      have t0 := ho.cell s0 (by simp)
      have t7 := ho.cell s7 (by simp)
      have hD := ((HD.out i hlt).only O6.out (by simp)).only ho (by simp)
      have d0 : wr.cell? ⟨ab, i * 23, none⟩ = some (.pointer (some ⟨sb, 0, none⟩)) := hD.c0
      have e0 := ho.cell (O6.out.cell HS.out.so (by simp)) (by simp)
      have e1 := ho.cell (O6.out.cell HS.out.sd (by simp)) (by simp)
      have HO := Lib.hid ho
      have hwz : (wide : Int) ≠ 0 := by omega
      have hwn : wide ≠ 0 := by omega
      obtain ⟨x, hx⟩ : ∃ x : Nat, x = i % wide := ⟨_, rfl⟩
      obtain ⟨y, hy⟩ : ∃ y : Nat, y = i / wide := ⟨_, rfl⟩
      have hyl : y ≤ i := by rw [hy]; exact Nat.div_le_self _ _
      have qx : (i : Int).tmod (wide : Int) = (x : Int) := by rw [hx, Int.tmod_eq_emod_of_nonneg (by omega)]; rfl
      have qy : IntKind.i64.wrap ((i : Int) / (wide : Int)) = (y : Int) := by rw [show (i : Int) / (wide : Int) = (y : Int) by rw [hy]; rfl]; exact i64n _ (by omega)
      have hxw : x < wide := by rw [hx]; exact Nat.mod_lt _ (by omega)
      have hyh : y < high := by rw [hy]; exact Nat.div_lt_of_lt_mul (by have := HN.out; omega)
      clear ho hD hx hy
      cases de
      · go_wp2
        go_roundw
        case rel => exact ⟨i + 1, by omega, by go_num, HO.out⟩
        case measure => simp [intOf] <;> omega
      · rename World => wo
        go_wp2
        go_loopw [54] (fun q wr => ∃ k : Nat, k ≤ 3 ∧ q = .int .i64 k ∧ Only [] w5 wr) (fun q _ => 3 - (intOf q).toNat)
        case atStart => exact ⟨0, by omega, rfl, HO.out⟩
        case round =>
          obtain ⟨k, hk, rfl, ho⟩ := hrel
          by_cases hk3 : k < 3
          · have hk32 : (k : Int) < 3 := by omega
            have t0' := ho.cell s0 (by simp)
            have HK := Lib.hid ho
            clear ho
            go_wp2_with fail
            go_still_tail 14, (by kernel_rfl)
            change wpList _ _ _ _ _ wr.drew
            go_wp2_with fail
            refine (HM.out _ HK.out.drew x y k hxw hyh hk3).mono ?_
            rintro r wz ⟨rfl, oz⟩
            have OZ := Lib.hid (HK.out.drew.trans oz)
            clear oz HK
            go_wp2
            go_roundw
            case rel => exact ⟨k + 1, by omega, by go_num, OZ.out⟩
            case measure => simp [intOf] <;> omega
          · obtain rfl : k = 3 := by omega
            have HK := Lib.hid ho
            clear ho
            go_wp2
            go_roundw
            case rel => exact ⟨i + 1, by omega, by go_num, HK.out⟩
            case measure => simp [intOf] <;> omega
    · obtain rfl : i = n := by omega
      have HO := Lib.hid ho
      clear ho
      have g0 := HO.out.heap F6.out (by simp)
      have x0 : wr.cell? ⟨fr, 0, none⟩ = some (.int .i64 W) := by rw [cells_of g0]; rfl
      have x1 : wr.cell? ⟨fr, 1, none⟩ = some (.int .i64 H) := by rw [cells_of g0]; rfl
      have x2 : wr.cell? ⟨fr, 2, none⟩ = some (.slice (some ⟨b1, 0, none⟩) ny p1) := by rw [cells_of g0]; rfl
      have x3 : wr.cell? ⟨fr, 3, none⟩ = some (.slice (some ⟨b2, 0, none⟩) nu p2) := by rw [cells_of g0]; rfl
      have x4 : wr.cell? ⟨fr, 4, none⟩ = some (.slice (some ⟨b3, 0, none⟩) nv p3) := by rw [cells_of g0]; rfl
      have B7 := Lib.hid (HO.out.heap B6.out (by simp))
      have O7 := Lib.hid (O6.out.trans HO.out)
      have KY7 := Lib.hid (KY6.out.only HO.out (by simp))
      have KU7 := Lib.hid (KU6.out.only HO.out (by simp))
      have KV7 := Lib.hid (KV6.out.only HO.out (by simp))
      have hi5 : (Tryz.prog.info? 54).map (·.size) = some 5 := by kernel_rfl
      clear g0
      go_wp2_with (refine wpList_store_agg rfl _ _ _ rfl w.heap.size #[.int .i64 W, .int .i64 H, .slice (some ⟨b1, 0, none⟩) ny p1, .slice (some ⟨b2, 0, none⟩) nu p2, .slice (some ⟨b3, 0, none⟩) nv p3] rfl rfl B7.out hi5 rfl (by simp [Value.oneCell']) ?_)
      intro w8 hw8 ho8
      have W8 := Lib.hid hw8
      have O8 := Lib.hid (O7.out.trans' ho8 (fun i hi => .inr (by simp only [List.mem_singleton] at hi; omega)))
      have n1 : b1 ≠ w.heap.size := block_ne KY7.out.sm.choose_spec B7.out (by decide)
      have n2 : b2 ≠ w.heap.size := block_ne KU7.out.sm.choose_spec B7.out (by decide)
      have n3 : b3 ≠ w.heap.size := block_ne KV7.out.sm.choose_spec B7.out (by decide)
      have R1 := Lib.hid (BytesAt.smp (KY7.out.only ho8 (by simpa using n1)) EY.out (cap := p1))
      have R2 := Lib.hid (BytesAt.smp (KU7.out.only ho8 (by simpa using n2)) EU.out (cap := p2))
      have R3 := Lib.hid (BytesAt.smp (KV7.out.only ho8 (by simpa using n3)) EV.out (cap := p3))
      clear hw8 ho8
      go_wp2
      rw [Exit.noGoto_ret]
      exact ret_cell rfl _ rfl W8.out Tryz.underlying54 rfl hi5 rfl ⟨_, _, _, rfl, R1.out, R2.out, R3.out, O8.out⟩
end Go.Proofs.YtcmehedjdfopdaaGreat
