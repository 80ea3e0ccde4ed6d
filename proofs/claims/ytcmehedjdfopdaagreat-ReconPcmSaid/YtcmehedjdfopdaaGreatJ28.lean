/-
  The walk over package recon's Mb of a picture's only macroblock. The walk over package recon's Clone. The walks over package recon's Canvas.Done and Canvas.Raw.
-/
import Derived.Test.YtcmehedjdfopdaaGreatJ26
import Derived.Test.YtcmehedjdfopdaaGreatJ27
import Derived.Test.YtcmehedjdfopdaaGreatJ17
import Derived.Deep.RegionLaw
import Derived.Deep.DeepCutAuto
namespace Go.Proofs.YtcmehedjdfopdaaGreat
open Go.RowKit

def restL (de : Bool) (pq : Int) : List Value := ppsL de 0 pq false ++ ([.slice none 0 0, .slice none 0 0, .int .i64 0] : List Value)
theorem sliceCells (f c : Nat) (qp : Int) (de : Bool) (pq : Int) : headI f c qp ++ ppsL de 0 pq false ++ ([.slice none 0 0, .slice none 0 0, .int .i64 0, .int .i64 qp] : List Value) = headI f c qp ++ restL de pq ++ ([.int .i64 qp] : List Value) := by
  unfold restL
  simp only [List.append_assoc, List.cons_append, List.nil_append]
theorem told16 (whole chroma qp d : Int) (f c : Nat) (hq : Int) (q0 : 0 ≤ qp) (q1 : qp ≤ 51) (d0 : -200 ≤ d) (d1 : d ≤ 200) (w0 : 0 ≤ whole) (w1 : whole ≤ 3) (c0 : 0 ≤ chroma) (c1 : chroma ≤ 3) (wx : World) :
    Calls Tryz.prog 27 #[.agg (mbL 1 whole chroma qp d z16 z28 (.slice none 0 0)).toArray, .agg (headI f c hq).toArray] wx fun e w' => e = .returned (.bool true) ∧ Only [] wx w' := by
  have hM := mbL_is 1 whole chroma qp d z16 z28 (.slice none 0 0) z16_len z28_len z16_one z28_one rfl
  exact sy_toldI _ _ 1 whole chroma qp d _ _ (.inr (.inl rfl)) wx hM rfl fun wy mb h => sy_body16 mb whole chroma qp d wy (hM.at h) (hM.modes h) q0 q1 d0 d1 w0 w1 c0 c1
theorem refs16 (whole chroma qp d : Int) (f c : Nat) (hq : Int) (wx : World) :
    Calls Tryz.prog 28 #[.agg (mbL 1 whole chroma qp d z16 z28 (.slice none 0 0)).toArray, .agg (headI f c hq).toArray] wx fun e w' => e = .returned (.bool true) ∧ Only [] wx w' :=
  sy_refsI _ _ 1 (.inr (.inl rfl)) wx rfl
theorem Lifted.len {d qp : Int} {Y' : List Int} (h : Lifted d qp Y') : Y'.length = 256 := by
  obtain ⟨r, -, -, -, rfl⟩ := h
  rw [List.length_replicate]
theorem stableT : VecStable (fun _ _ => True) := fun _ _ _ _ _ => trivial

theorem mb_first {w : World} {B cb yb ub vb cy cu cv sb : Nat} {d qp hq pq : Int} {de : Bool} (hc : CanAt w cb yb ub vb cy cu cv 1 1 (List.replicate 256 128) (List.replicate 64 128) (List.replicate 64 128) (.slice none 0 0) (.pointer (some ⟨sb, 0, none⟩)) ((0 + 1 : Nat) : Int))
    (hs : w.heap[sb]? = some (.cells (headI (0 : Nat) (1 : Nat) hq ++ restL de pq ++ ([.int .i64 hq] : List Value)).toArray 89 (0, 0))) (hb1 : B ≤ cb) (q0 : 0 ≤ qp) (q1 : qp ≤ 51) (d0 : -200 ≤ d) (d1 : d ≤ 200) :
    Calls Tryz.prog 13 #[.pointer (some ⟨cb, 0, none⟩), .agg (mbL 1 2 0 qp d z16 z28 (.slice none 0 0)).toArray] w (MbOut (fun _ _ => True) (Lifted d qp) B cb yb ub vb cy cu cv 1 1 0 sb (.slice none 0 0) 1 qp qp (List.replicate 64 128) (List.replicate 64 128) ((0 + 1 : Nat) : Int) [] (headI (0 : Nat) (1 : Nat) hq) (restL de pq) w) := by
  have hM := mbL_is 1 2 0 qp d z16 z28 (.slice none 0 0) z16_len z28_len z16_one z28_one rfl
  have hl : (mbL 1 2 0 qp d z16 z28 (.slice none 0 0)).length = 483 := mbL_length z16_len z28_len
  exact mb_drawn16 (Y := List.replicate 256 128) (U := List.replicate 64 128) (V := List.replicate 64 128) (U' := List.replicate 64 128) (V' := List.replicate 64 128) hc (by omega) (by omega) (by omega) (by omega) (World.ownsRow_nil _ _ _ _) _ _ rfl rfl hs hb1 (mbL 1 2 0 qp d z16 z28 (.slice none 0 0)) hl rfl (mbL_ps z16_len z28_len 0) (mbL_ps z16_len z28_len 1) (fun i hi => by have := hM.co i hi; rwa [List.getElem?_toArray] at this)
    (told16 2 0 qp d 0 1 hq q0 q1 d0 d1 (by omega) (by omega) (by omega) (by omega)) (refs16 2 0 qp d 0 1 hq) (fun _ _ => True) stableT (Lifted d qp) (fun Y' h => by rw [h.len, List.length_replicate]) rfl rfl
    (fun wx b mb db hb hm hd _ _ _ ho => draw_first hb (hc.only ho (by simp) (by simp) (by simp) (by simp)) hM hm hd q0 q1 d0 d1)
end Go.Proofs.YtcmehedjdfopdaaGreat

namespace Go.Proofs.YtcmehedjdfopdaaGreat
open Go.RowKit

set_option maxRecDepth 100000 in
set_option maxHeartbeats 3200000 in
theorem recon_clone {w : World} {yb ub vb cy cu cv ny nu nv : Nat} {W H : Int} {Y U V : List Int} (hy : SmpAt w yb Y) (hu : SmpAt w ub U) (hv : SmpAt w vb V) (ey : Y.length = ny) (eu : U.length = nu) (ev : V.length = nv) (y0 : 0 < ny) (u0 : 0 < nu) (v0 : 0 < nv) (y1 : ny ≤ 1000000) (u1 : nu ≤ 1000000) (v1 : nv ≤ 1000000) :
    Calls Tryz.prog 31 #[.agg #[.int .i64 W, .int .i64 H, .slice (some ⟨yb, 0, none⟩) ny cy, .slice (some ⟨ub, 0, none⟩) nu cu, .slice (some ⟨vb, 0, none⟩) nv cv]] w fun e w' => ∃ r1 r2 r3, e = .returned (.agg #[.int .i64 W, .int .i64 H, r1, r2, r3]) ∧ w'.ownsRow w.heap.size 5 1 r1 ny (Y.map (Value.int .u8)) ∧ w'.ownsRow w.heap.size 5 1 r2 nu (U.map (Value.int .u8)) ∧ w'.ownsRow w.heap.size 5 1 r3 nv (V.map (Value.int .u8)) ∧ Only [] w w' := by
  have hcy := fun (wx : World) (hx : Only [] w wx) => bytes_clone (cap := cy) (hy.only hx (by simp)) ey y0 y1
  have hcu := fun (wx : World) (hx : Only [] w wx) => bytes_clone (cap := cu) (hu.only hx (by simp)) eu u0 u1
  have hcv := fun (wx : World) (hx : Only [] w wx) => bytes_clone (cap := cv) (hv.only hx (by simp)) ev v0 v1
  have Hy := Lib.hid hcy
  have Hu := Lib.hid hcu
  have Hv := Lib.hid hcv
  clear hcy hcu hcv hy hu hv ey eu ev
  have A0 := Lib.hid (heap_alloc2_old w (.cells #[.int .i64 W, .int .i64 H, .slice (some ⟨yb, 0, none⟩) ny cy, .slice (some ⟨ub, 0, none⟩) nu cu, .slice (some ⟨vb, 0, none⟩) nv cv] 54) (.cells #[.int .i64 0, .int .i64 0, .slice none 0 0, .slice none 0 0, .slice none 0 0] 54))
  have A1 := Lib.hid (heap_alloc2_new w (.cells #[.int .i64 W, .int .i64 H, .slice (some ⟨yb, 0, none⟩) ny cy, .slice (some ⟨ub, 0, none⟩) nu cu, .slice (some ⟨vb, 0, none⟩) nv cv] 54) (.cells #[.int .i64 0, .int .i64 0, .slice none 0 0, .slice none 0 0, .slice none 0 0] 54))
  have OA : Hid (Only [] w ((w.alloc (.cells #[.int .i64 W, .int .i64 H, .slice (some ⟨yb, 0, none⟩) ny cy, .slice (some ⟨ub, 0, none⟩) nu cu, .slice (some ⟨vb, 0, none⟩) nv cv] 54)).alloc (.cells #[.int .i64 0, .int .i64 0, .slice none 0 0, .slice none 0 0, .slice none 0 0] 54))) := Lib.hid (((Only.refl [] w).alloc _).alloc _)
  go_enter Tryz.func31, Tryz.ntmps31
  go_wp2_with fail
  generalize (w.alloc (.cells #[.int .i64 W, .int .i64 H, .slice (some ⟨yb, 0, none⟩) ny cy, .slice (some ⟨ub, 0, none⟩) nu cu, .slice (some ⟨vb, 0, none⟩) nv cv] 54)).alloc (.cells #[.int .i64 0, .int .i64 0, .slice none 0 0, .slice none 0 0, .slice none 0 0] 54) = ws at *
  have Bs := A0
  have Os := OA
  have c2s : ws.cell? ⟨w.heap.size, 2, none⟩ = some (.slice (some ⟨yb, 0, none⟩) ny cy) := by rw [cells_of Bs.out]; rfl
  have c3s : ws.cell? ⟨w.heap.size, 3, none⟩ = some (.slice (some ⟨ub, 0, none⟩) nu cu) := by rw [cells_of Bs.out]; rfl
  have c4s : ws.cell? ⟨w.heap.size, 4, none⟩ = some (.slice (some ⟨vb, 0, none⟩) nv cv) := by rw [cells_of Bs.out]; rfl
  go_cut [] (fun wx => ∃ g1 p1 g2 p2 g3 p3, wx.heap[w.heap.size]? = some (.cells #[.int .i64 W, .int .i64 H, .slice (some ⟨g1, 0, none⟩) ny p1, .slice (some ⟨g2, 0, none⟩) nu p2, .slice (some ⟨g3, 0, none⟩) nv p3] 54 (0, 0)) ∧ wx.ownsRow w.heap.size 5 1 (.slice (some ⟨g1, 0, none⟩) ny p1) ny (Y.map (Value.int .u8)) ∧ wx.ownsRow w.heap.size 5 1 (.slice (some ⟨g2, 0, none⟩) nu p2) nu (U.map (Value.int .u8)) ∧ wx.ownsRow w.heap.size 5 1 (.slice (some ⟨g3, 0, none⟩) nv p3) nv (V.map (Value.int .u8)) ∧ wx.heap[w.heap.size + 1]? = some (.cells #[.int .i64 0, .int .i64 0, .slice none 0 0, .slice none 0 0, .slice none 0 0] 54 (0, 0)) ∧ Only [] w wx)
  case first =>
    go_region_law (first
      | (go_simp; go_at_call 57; with_reducible refine (Hy.out _ (by first | exact Os.out | exact Os.out.drew)).mono ?_
         rintro r wy ⟨ry, rfl, oy, gy⟩
         obtain ⟨ey, py, _, rfl, -⟩ := owned_shape oy y0
         have Os1y : Hid (Only [] ws wy) := Lib.hid (by first | exact gy | exact (Only.refl [] ws).drew.trans gy)
         have Oy : Hid (Only [] w wy) := Lib.hid (by first | exact Os.out.trans gy | exact Os.out.drew.trans gy)
         have By : Hid (wy.heap[w.heap.size]? = some (.cells #[.int .i64 W, .int .i64 H, .slice (some ⟨yb, 0, none⟩) ny cy, .slice (some ⟨ub, 0, none⟩) nu cu, .slice (some ⟨vb, 0, none⟩) nv cv] 54 (0, 0))) := Lib.hid (gy.heap Bs.out (by simp))
         have c2y : wy.cell? ⟨w.heap.size, 2, none⟩ = some (.slice (some ⟨yb, 0, none⟩) ny cy) := by rw [cells_of By.out]; rfl
         have c3y : wy.cell? ⟨w.heap.size, 3, none⟩ = some (.slice (some ⟨ub, 0, none⟩) nu cu) := by rw [cells_of By.out]; rfl
         have c4y : wy.cell? ⟨w.heap.size, 4, none⟩ = some (.slice (some ⟨vb, 0, none⟩) nv cv) := by rw [cells_of By.out]; rfl
         have z2y := free_of By.out 2
         have z3y := free_of By.out 3
         have z4y := free_of By.out 4
         have Qy := Lib.hid oy
         clear oy gy)
      | (go_simp; go_at_call 57; with_reducible refine (Hu.out _ (by first | exact Oy.out | exact Oy.out.drew)).mono ?_
         rintro r wu ⟨ru, rfl, ou, gu⟩
         obtain ⟨eu, pu, _, rfl, -⟩ := owned_shape ou u0
         have Os1u : Hid (Only [] wy wu) := Lib.hid (by first | exact gu | exact (Only.refl [] wy).drew.trans gu)
         have Ou : Hid (Only [] w wu) := Lib.hid (by first | exact Oy.out.trans gu | exact Oy.out.drew.trans gu)
         have Bu : Hid (wu.heap[w.heap.size]? = some (.cells #[.int .i64 W, .int .i64 H, .slice (some ⟨yb, 0, none⟩) ny cy, .slice (some ⟨ub, 0, none⟩) nu cu, .slice (some ⟨vb, 0, none⟩) nv cv] 54 (0, 0))) := Lib.hid (gu.heap By.out (by simp))
         have c2u : wu.cell? ⟨w.heap.size, 2, none⟩ = some (.slice (some ⟨yb, 0, none⟩) ny cy) := by rw [cells_of Bu.out]; rfl
         have c3u : wu.cell? ⟨w.heap.size, 3, none⟩ = some (.slice (some ⟨ub, 0, none⟩) nu cu) := by rw [cells_of Bu.out]; rfl
         have c4u : wu.cell? ⟨w.heap.size, 4, none⟩ = some (.slice (some ⟨vb, 0, none⟩) nv cv) := by rw [cells_of Bu.out]; rfl
         have z2u := free_of Bu.out 2
         have z3u := free_of Bu.out 3
         have z4u := free_of Bu.out 4
         have Qu := Lib.hid ou
         have Ry := Lib.hid (by first | exact own_on Qy.out gu | exact own_on (w := wy.drew) Qy.out gu)
         clear ou gu)
      | (go_simp; go_at_call 57; with_reducible refine (Hv.out _ (by first | exact Ou.out | exact Ou.out.drew)).mono ?_
         rintro r wv ⟨rv, rfl, ov, gv⟩
         obtain ⟨ev, pv, _, rfl, -⟩ := owned_shape ov v0
         have Ov : Hid (Only [] w wv) := Lib.hid (by first | exact Ou.out.trans gv | exact Ou.out.drew.trans gv)
         have Bv : Hid (wv.heap[w.heap.size]? = some (.cells #[.int .i64 W, .int .i64 H, .slice (some ⟨yb, 0, none⟩) ny cy, .slice (some ⟨ub, 0, none⟩) nu cu, .slice (some ⟨vb, 0, none⟩) nv cv] 54 (0, 0))) := Lib.hid (gv.heap Bu.out (by simp))
         have c2v : wv.cell? ⟨w.heap.size, 2, none⟩ = some (.slice (some ⟨yb, 0, none⟩) ny cy) := by rw [cells_of Bv.out]; rfl
         have c3v : wv.cell? ⟨w.heap.size, 3, none⟩ = some (.slice (some ⟨ub, 0, none⟩) nu cu) := by rw [cells_of Bv.out]; rfl
         have c4v : wv.cell? ⟨w.heap.size, 4, none⟩ = some (.slice (some ⟨vb, 0, none⟩) nv cv) := by rw [cells_of Bv.out]; rfl
         have z2v := free_of Bv.out 2
         have z3v := free_of Bv.out 3
         have z4v := free_of Bv.out 4
         have Qv := Lib.hid ov
         have Sy := Lib.hid (by first | exact own_on Ry.out gv | exact own_on (w := wu.drew) Ry.out gv)
         have Su := Lib.hid (by first | exact own_on Qu.out gv | exact own_on (w := wu.drew) Qu.out gv)
         have T1 := Lib.hid (by first | exact (Os1y.out.trans Os1u.out).trans gv | exact (Os1y.out.trans Os1u.out).trans ((Only.refl [] wu).drew.trans gv))
         clear ov gv))
    all_goals
      have O9 : Only [w.heap.size] wv (((wv.setCell ⟨w.heap.size, 2, none⟩ (.slice (some ⟨ey, 0, none⟩) ny py)).setCell ⟨w.heap.size, 3, none⟩ (.slice (some ⟨eu, 0, none⟩) nu pu)).setCell ⟨w.heap.size, 4, none⟩ (.slice (some ⟨ev, 0, none⟩) nv pv)) := (((Only.refl [w.heap.size] wv).setCell (.inl (by simp)) _).setCell (.inl (by simp)) _).setCell (.inl (by simp)) _
      have B9 : Hid ((((wv.setCell ⟨w.heap.size, 2, none⟩ (.slice (some ⟨ey, 0, none⟩) ny py)).setCell ⟨w.heap.size, 3, none⟩ (.slice (some ⟨eu, 0, none⟩) nu pu)).setCell ⟨w.heap.size, 4, none⟩ (.slice (some ⟨ev, 0, none⟩) nv pv)).heap[w.heap.size]? = some (.cells #[.int .i64 W, .int .i64 H, .slice (some ⟨ey, 0, none⟩) ny py, .slice (some ⟨eu, 0, none⟩) nu pu, .slice (some ⟨ev, 0, none⟩) nv pv] 54 (0, 0))) := Lib.hid (heap_set_same _ (heap_set_same _ (heap_set_same _ Bv.out)))
      have s1 := Os.out.size
      have s2 := Os1y.out.size
      have s3 := Os1u.out.size
      have K1 := Lib.hid (own_mono (own_stay Sy.out O9 Bv.out (by decide)) (show w.heap.size ≤ ws.heap.size by omega))
      have K2 := Lib.hid (own_mono (own_stay Su.out O9 Bv.out (by decide)) (show w.heap.size ≤ wy.heap.size by omega))
      have K3 := Lib.hid (own_mono (own_stay Qv.out O9 Bv.out (by decide)) (show w.heap.size ≤ wu.heap.size by omega))
      have R9 := Lib.hid (O9.heap (T1.out.heap A1.out (by simp)) (by simp))
      have P9 : Hid (Only [] w (((wv.setCell ⟨w.heap.size, 2, none⟩ (.slice (some ⟨ey, 0, none⟩) ny py)).setCell ⟨w.heap.size, 3, none⟩ (.slice (some ⟨eu, 0, none⟩) nu pu)).setCell ⟨w.heap.size, 4, none⟩ (.slice (some ⟨ev, 0, none⟩) nv pv))) := Lib.hid (Ov.out.trans' O9 (fun i hi => .inr (by simp only [List.mem_singleton] at hi; omega)))
      clear O9
      go_wp2_with fail
      go_meet
      exact ⟨_, _, _, _, _, _, B9.out, K1.out, K2.out, K3.out, R9.out, P9.out⟩
  case rest =>
    obtain ⟨g1, p1, g2, p2, g3, p3, hF, k1, k2, k3, hR, ho⟩ := hcut
    have hi5 : (Tryz.prog.info? 54).map (·.size) = some (#[.int .i64 W, .int .i64 H, .slice (some ⟨g1, 0, none⟩) ny p1, .slice (some ⟨g2, 0, none⟩) nu p2, .slice (some ⟨g3, 0, none⟩) nv p3] : Array Value).size := by
      have : (Tryz.prog.info? 54).map (·.size) = some 5 := by kernel_rfl
      exact this
    have hone : (#[.int .i64 W, .int .i64 H, .slice (some ⟨g1, 0, none⟩) ny p1, .slice (some ⟨g2, 0, none⟩) nu p2, .slice (some ⟨g3, 0, none⟩) nv p3] : Array Value).all (·.oneCell') = true := by simp [Value.oneCell']
    have Hi5 := Lib.hid hi5
    have Hone := Lib.hid hone
    have HF := Lib.hid hF
    have HR := Lib.hid hR
    have J1 := Lib.hid k1
    have J2 := Lib.hid k2
    have J3 := Lib.hid k3
    have HO := Lib.hid ho
    clear hi5 hone hF hR k1 k2 k3 ho
    go_wp2_with (first
      | (with_reducible refine wpList_load_row rfl _ _ rfl _ rfl _ _ _ _ HF.out Tryz.underlying54 rfl Hi5.out ?_)
      | (refine wpList_store_agg rfl _ _ _ rfl _ #[.int .i64 W, .int .i64 H, .slice (some ⟨g1, 0, none⟩) ny p1, .slice (some ⟨g2, 0, none⟩) nu p2, .slice (some ⟨g3, 0, none⟩) nv p3] rfl rfl HR.out Hi5.out rfl Hone.out ?_))
    intro w8 hw8 ho8
    have W8 := Lib.hid hw8
    have O8 := Lib.hid (HO.out.trans' ho8 (fun i hi => .inr (by simp only [List.mem_singleton] at hi; omega)))
    have L1 := Lib.hid (own_stay J1.out ho8 HR.out (by decide))
    have L2 := Lib.hid (own_stay J2.out ho8 HR.out (by decide))
    have L3 := Lib.hid (own_stay J3.out ho8 HR.out (by decide))
    clear hw8 ho8
    go_wp2
    exact ret_cell rfl _ rfl W8.out Tryz.underlying54 rfl Hi5.out rfl ⟨_, _, _, rfl, L1.out, L2.out, L3.out, O8.out⟩
end Go.Proofs.YtcmehedjdfopdaaGreat

namespace Go.Proofs.YtcmehedjdfopdaaGreat
open Go.RowKit

theorem canvas_done {w : World} {cb yb ub vb cy cu cv wide high n c : Nat} {Y U V : List Int} {a : Option Addr} {cur : Value} {aft : Int} (hc : CanAt w cb yb ub vb cy cu cv wide high Y U V (.slice a n c) cur aft) :
    Calls Tryz.prog 15 #[.pointer (some ⟨cb, 0, none⟩)] w fun e w' => e = .returned (.int .i64 n) ∧ w = w' := by
  have s0 : w.cell? ⟨cb, 7, none⟩ = some (.slice a n c) := by rw [cells_of hc.st]; rfl
  clear hc
  go_enter Tryz.func15, Tryz.ntmps15
  go_wp2
  go_ret
  exact ⟨rfl, rfl⟩

/-- A frame that is handed out: new memory, these samples. -/
def FrameOut (w0 w : World) (W H ny nu nv : Nat) (Y U V : List Int) (f : Array Value) : Prop :=
  ∃ g1 p1 g2 p2 g3 p3, f = #[.int .i64 W, .int .i64 H, .slice (some ⟨g1, 0, none⟩) ny p1, .slice (some ⟨g2, 0, none⟩) nu p2, .slice (some ⟨g3, 0, none⟩) nv p3] ∧ w.ownsRow w0.heap.size 5 1 (.slice (some ⟨g1, 0, none⟩) ny p1) ny (Y.map (Value.int .u8)) ∧ w.ownsRow w0.heap.size 5 1 (.slice (some ⟨g2, 0, none⟩) nu p2) nu (U.map (Value.int .u8)) ∧ w.ownsRow w0.heap.size 5 1 (.slice (some ⟨g3, 0, none⟩) nv p3) nv (V.map (Value.int .u8))

set_option maxRecDepth 100000 in
set_option maxHeartbeats 800000 in
theorem canvas_raw {w : World} {cb yb ub vb cy cu cv wide high ny nu nv : Nat} {Y U V : List Int} {al cur : Value} {aft : Int} (hc : CanAt w cb yb ub vb cy cu cv wide high Y U V al cur aft) (ey : Y.length = ny) (eu : U.length = nu) (ev : V.length = nv) (y0 : 0 < ny) (u0 : 0 < nu) (v0 : 0 < nv) (y1 : ny ≤ 1000000) (u1 : nu ≤ 1000000) (v1 : nv ≤ 1000000) :
    Calls Tryz.prog 17 #[.pointer (some ⟨cb, 0, none⟩)] w fun e w' => ∃ f, e = .returned (.agg f) ∧ FrameOut w w' (16 * wide) (16 * high) ny nu nv Y U V f ∧ Only [] w w' := by
  have hst := hc.st
  rw [ey, eu, ev] at hst
  have s2 : w.cell? ⟨cb, 2, none⟩ = some (.int .i64 ((16 * wide : Nat) : Int)) := by rw [cells_of hst]; rfl
  have s3 : w.cell? ⟨cb, 3, none⟩ = some (.int .i64 ((16 * high : Nat) : Int)) := by rw [cells_of hst]; rfl
  have s4 : w.cell? ⟨cb, 4, none⟩ = some (.slice (some ⟨yb, 0, none⟩) ny cy) := by rw [cells_of hst]; rfl
  have s5 : w.cell? ⟨cb, 5, none⟩ = some (.slice (some ⟨ub, 0, none⟩) nu cu) := by rw [cells_of hst]; rfl
  have s6 : w.cell? ⟨cb, 6, none⟩ = some (.slice (some ⟨vb, 0, none⟩) nv cv) := by rw [cells_of hst]; rfl
  obtain ⟨W, hW⟩ : ∃ W, W = 16 * wide := ⟨_, rfl⟩
  obtain ⟨H, hH⟩ : ∃ H, H = 16 * high := ⟨_, rfl⟩
  rw [← hW] at s2
  rw [← hH] at s3
  rw [← hW, ← hH]
  have hcl := fun (wx : World) (hx : Only [] w wx) => recon_clone (W := (W : Int)) (H := (H : Int)) (cy := cy) (cu := cu) (cv := cv) (SmpAt.only ⟨hc.ys, hc.oy⟩ hx (by simp)) (SmpAt.only ⟨hc.us, hc.ou⟩ hx (by simp)) (SmpAt.only ⟨hc.vs, hc.ov⟩ hx (by simp)) ey eu ev y0 u0 v0 y1 u1 v1
  have Hcl := Lib.hid hcl
  have hcb := lt_of_block hst
  clear hc hst hcl hW hH
  go_enter Tryz.func17, Tryz.ntmps17
  go_wp2_with fail
  refine (Hcl.out _ ((Only.refl [] w).alloc _)).mono ?_
  rintro e w1 ⟨r1, r2, r3, rfl, o1, o2, o3, g1⟩
  obtain ⟨b1, p1, _, rfl, -⟩ := owned_shape o1 y0
  obtain ⟨b2, p2, _, rfl, -⟩ := owned_shape o2 u0
  obtain ⟨b3, p3, _, rfl, -⟩ := owned_shape o3 v0
  have B1 := Lib.hid (g1.heap (heap_alloc_at w _) (by simp))
  have O1 : Hid (Only [] w w1) := Lib.hid (((Only.refl [] w).alloc _).trans g1)
  have K1 := Lib.hid o1
  have K2 := Lib.hid o2
  have K3 := Lib.hid o3
  clear o1 o2 o3 g1 s2 s3 s4 s5 s6 Hcl
  have hone : (#[.int .i64 W, .int .i64 H, .slice (some ⟨b1, 0, none⟩) ny p1, .slice (some ⟨b2, 0, none⟩) nu p2, .slice (some ⟨b3, 0, none⟩) nv p3] : Array Value).all (·.oneCell') = true := by simp [Value.oneCell']
  have hi5 : (Tryz.prog.info? 54).map (·.size) = some (#[.int .i64 W, .int .i64 H, .slice (some ⟨b1, 0, none⟩) ny p1, .slice (some ⟨b2, 0, none⟩) nu p2, .slice (some ⟨b3, 0, none⟩) nv p3] : Array Value).size := by
    have : (Tryz.prog.info? 54).map (·.size) = some 5 := by kernel_rfl
    exact this
  have Hone := Lib.hid hone
  have Hi5 := Lib.hid hi5
  clear hone hi5
  go_wp2_with (refine wpList_store_agg rfl _ _ _ rfl _ _ rfl rfl B1.out Hi5.out rfl Hone.out ?_)
  intro w8 hw8 ho8
  have W8 := Lib.hid hw8
  have O8 := Lib.hid (O1.out.trans' ho8 (fun i hi => .inr (by simp only [List.mem_singleton] at hi; omega)))
  have L1 := Lib.hid (own_mono (own_stay K1.out ho8 B1.out (by decide)) (show w.heap.size ≤ _ by simp))
  have L2 := Lib.hid (own_mono (own_stay K2.out ho8 B1.out (by decide)) (show w.heap.size ≤ _ by simp))
  have L3 := Lib.hid (own_mono (own_stay K3.out ho8 B1.out (by decide)) (show w.heap.size ≤ _ by simp))
  clear hw8 ho8
  go_wp2
  exact ret_cell rfl _ rfl W8.out Tryz.underlying54 rfl Hi5.out rfl ⟨_, rfl, ⟨_, _, _, _, _, _, rfl, L1.out, L2.out, L3.out⟩, O8.out⟩
end Go.Proofs.YtcmehedjdfopdaaGreat
