/-
  The walks over package recon's draw and Mb on a picture of one macroblock: modes of blocks; what is refused. The walks over package recon's Mb on a picture of one macroblock, whatever its modes are.
-/
import Derived.Test.YtcmehedjdfopdaaGreatJ35
import Derived.Test.YtcmehedjdfopdaaGreatJ28
import Derived.Test.YtcmehedjdfopdaaGreatJ36
import Derived.Test.YtcmehedjdfopdaaGreatJ37
import Derived.Test.YtcmehedjdfopdaaGreatJ38
namespace Go.Proofs.YtcmehedjdfopdaaGreat
open Go Go.RowKit

theorem four_no (m : Nat) (hm : m < 9) (hm2 : m ≠ 2) (w : World) :
    Calls Tryz.prog 79 #[.int .i64 m, .slice none 0 0, .slice none 0 0, .int .i64 (-1)] w fun e w' => e = .returned (.tuple #[.slice none 0 0, .int .i64 1101]) ∧ Only [] w w' := by
  rcases (show m = 0 ∨ m = 1 ∨ m = 3 ∨ m = 4 ∨ m = 5 ∨ m = 6 ∨ m = 7 ∨ m = 8 by omega) with rfl | rfl | rfl | rfl | rfl | rfl | rfl | rfl
  · exact four_no0 w
  · exact four_no1 w
  · exact four_no3 w
  · exact four_no4 w
  · exact four_no5 w
  · exact four_no6 w
  · exact four_no7 w
  · exact four_no8 w

set_option maxRecDepth 100000 in
set_option maxHeartbeats 1600000 in
theorem fours_no {w : World} {b cb mb db yb ub vb cy cu cv : Nat} {U V : List Int} {al cur : Value} {aft : Int} (f : Nat → Int) (m : Nat) (hb : BrushAt w b cb mb db 0 0) (hc : CanAt w cb yb ub vb cy cu cv 1 1 (List.replicate 256 128) U V al cur aft)
    (hm : w.rangeAt mb 2 (((List.range 16).map f).map (Value.int .i64))) (hf : f 0 = m) (hm9 : m < 9) (hm2 : m ≠ 2) :
    Calls Tryz.prog 52 #[.pointer (some ⟨b, 0, none⟩)] w fun e w' => e = .returned (.bool false) ∧ Only [] w w' := by
  have s0 : w.cell? ⟨b, 0, none⟩ = some (.pointer (some ⟨cb, 0, none⟩)) := by rw [cells_of hb]; rfl
  have hpl := recon_planes cb 2 (16 * 1) _ _ _ w (by rw [cells_of hc.st]; rfl) (by rw [cells_of hc.st]; rfl) (by rw [cells_of hc.st]; rfl) (by rw [cells_of hc.st]; rfl) (by omega) ⟨_, _, _, rfl⟩ ⟨_, _, _, rfl⟩ ⟨_, _, _, rfl⟩
  obtain ⟨YY, hYY⟩ : ∃ YY, YY = List.replicate 256 (128 : Int) := ⟨_, rfl⟩
  rw [← hYY] at hc hpl
  obtain ⟨Zp, hZp⟩ : ∃ Zp, Zp = planesV ((16 * 1 : Nat) : Int) (.slice (some ⟨yb, 0, none⟩) YY.length cy) (.slice (some ⟨ub, 0, none⟩) U.length cu) (.slice (some ⟨vb, 0, none⟩) V.length cv) := ⟨_, rfl⟩
  have hidx : ∀ w : World, (Instr.index 118 (.agg Zp) (.int .i64 0)).run Tryz.prog w = .ok (.agg #[.slice (some ⟨yb, 0, none⟩) YY.length cy, .int .i64 ((16 * 1 : Nat) : Int), .int .i64 16]) w := fun w => by
    rw [hZp]
    exact (planes_index _ _ _ _ w Tryz.underlying118 Tryz.underlying117 (by kernel_rfl)).1
  rw [← hZp] at hpl
  obtain ⟨Ms, hMs⟩ : ∃ Ms, Ms = ((List.range 16).map f).map (Value.int .i64) := ⟨_, rfl⟩
  have hix : ∀ w : World, (Instr.index 36 (.agg Ms.toArray) (.int .i64 0)).run Tryz.prog w = .ok (.int .i64 m) w := fun w => by
    rw [hMs, ← hf]
    exact modes_index f 0 (by omega) w
  have hla : (Tryz.prog.info? 36).map (·.size) = some Ms.length := by rw [hMs]; simp only [List.length_map, List.length_range]; kernel_rfl
  rw [← hMs] at hm
  have hfn := fun w => four_no m hm9 hm2 w
  have HP := Lib.hid hpl
  have Hb := Lib.hid hb
  have Hc := Lib.hid hc
  have Hfn := Lib.hid hfn
  have Hla := Lib.hid hla
  have Hm := Lib.hid hm
  have HY := Lib.hid hYY
  have hcbl := lt_of_block hc.st
  have hybl := lt_of_block hc.ys.choose_spec
  clear hb hc hpl hla hm hZp hMs hYY hf hfn hm9 hm2
  go_enter Tryz.func52, Tryz.ntmps52
  go_wp2_with fail
  refine HP.out.mono ?_
  rintro e w1 ⟨rfl, g1⟩
  have O1 := Lib.hid g1
  have k2 : w1.cell? ⟨b, 1, none⟩ = some (.pointer (some ⟨mb, 0, none⟩)) := g1.cell (by rw [cells_of Hb.out]; rfl) (by simp)
  have m2 : w1.rangeAt mb 2 Ms := range_only Hm.out g1 (by simp)
  have M2 := Lib.hid (range_alloc (x := .cells #[.slice (some ⟨yb, 0, none⟩) YY.length cy, .int .i64 16, .int .i64 16] 117) m2)
  clear g1 s0 HP m2
  have hP2 := Hc.out.luma O1.out
  have P2 : Hid (PlaneAt (w1.alloc (.cells #[.slice (some ⟨yb, 0, none⟩) YY.length cy, .int .i64 16, .int .i64 16] 117)) w1.heap.size yb cy (16 * 1) 16 YY) := Lib.hid hP2
  have O2 := Lib.hid (O1.out.alloc (.cells #[.slice (some ⟨yb, 0, none⟩) YY.length cy, .int .i64 16, .int .i64 16] 117))
  have k3 := cell_alloc (o := .cells #[.slice (some ⟨yb, 0, none⟩) YY.length cy, .int .i64 16, .int .i64 16] 117) k2
  have hz1 := O1.out.size
  clear hP2 k2 O1
  go_wp2_with (with_reducible refine wpList_load_mid rfl _ _ rfl mb 2 rfl Ms _ M2.out Tryz.underlying36 rfl Hla.out ?_)
  go_wp2
  generalize w1.alloc (.cells #[.slice (some ⟨yb, 0, none⟩) YY.length cy, .int .i64 16, .int .i64 16] 117) = w2 at *
  generalize w1.heap.size = pb at *
  generalize Ms.toArray = Ma at *
  clear k3 M2 Hm
  go_loopw [28] (fun q wr => q = .int .i64 0 ∧ w2 = wr) (fun _ _ => 0)
  case atStart => exact ⟨rfl, rfl⟩
  case round =>
    obtain ⟨rfl, rfl⟩ := hrel
    have hB8 : BrushAt w2 b cb mb db 0 0 := O2.out.heap Hb.out (by simp)
    have hC8 := Hc.out.only O2.out (by simp) (by simp) (by simp) (by simp)
    have har := around_zero (v := 128) hB8 hC8 (by have := P2.out; rw [HY.out] at this; exact this)
    have HAR := Lib.hid har
    clear hB8 hC8 har
    go_wp2_with fail
    refine HAR.out.mono ?_
    rintro e w3 ⟨rfl, o3⟩
    have O3 := Lib.hid (O2.out.trans o3)
    clear o3 HAR
    go_wp2_with fail
    refine (Hfn.out _).mono ?_
    rintro e w4 ⟨rfl, o4⟩
    have O4 := Lib.hid (O3.out.trans o4)
    clear o4
    go_wp2
    go_ret
    exact ⟨rfl, O4.out⟩

/-- A macroblock of blocks' modes. -/
def modesV (f : Nat → Int) : List Value := ((List.range 16).map f).map (Value.int .i64)
theorem modesV_len (f : Nat → Int) : (modesV f).length = 16 := by simp [modesV]
theorem modesV_one (f : Nat → Int) : ∀ v ∈ modesV f, v.oneCell' = true := fun v hv => by
  simp only [modesV, List.mem_map] at hv
  obtain ⟨x, -, rfl⟩ := hv
  rfl
theorem told4 (chroma : Int) (f : Nat → Int) (hf : ∀ i, i < 16 → 0 ≤ f i ∧ f i ≤ 8) (fi c : Nat) (hq : Int) (c0 : 0 ≤ chroma) (c1 : chroma ≤ 3) (wx : World) :
    Calls Tryz.prog 27 #[.agg (mbL 0 0 chroma 0 0 (modesV f) z28 (.slice none 0 0)).toArray, .agg (headI fi c hq).toArray] wx fun e w' => e = .returned (.bool true) ∧ Only [] wx w' := by
  have hM := mbL_is 0 0 chroma 0 0 (modesV f) z28 (.slice none 0 0) (modesV_len f) z28_len (modesV_one f) z28_one rfl
  exact sy_toldI _ _ 0 0 chroma 0 0 _ _ (.inl rfl) wx hM rfl fun wy mb h => sy_body4 mb chroma f wy (hM.at h) (hM.modes h) hf c0 c1
theorem refs4 (chroma : Int) (f : Nat → Int) (fi c : Nat) (hq : Int) (wx : World) :
    Calls Tryz.prog 28 #[.agg (mbL 0 0 chroma 0 0 (modesV f) z28 (.slice none 0 0)).toArray, .agg (headI fi c hq).toArray] wx fun e w' => e = .returned (.bool true) ∧ Only [] wx w' :=
  sy_refsI _ _ 0 (.inl rfl) wx rfl

section
variable {w : World} {b cb mb db yb ub vb cy cu cv : Nat} {al cur : Value} {aft : Int}
/-- A grey canvas of one macroblock. -/
abbrev Grey1 (w : World) (cb yb ub vb cy cu cv : Nat) (al cur : Value) (aft : Int) : Prop := CanAt w cb yb ub vb cy cu cv 1 1 (List.replicate 256 128) (List.replicate 64 128) (List.replicate 64 128) al cur aft

theorem kept1 : putTo (16 * 1) (0 * 16) 0 16 (keepTo (List.replicate 256 128) (16 * 1) (0 * 16) 16 16) (List.replicate 256 128) 256 = List.replicate 256 128 := putTo_kept _ _ _ _ (by omega) 256 (by omega)

theorem chroma_dc1 {wx : World} {Mc : Array Value} (hb : BrushAt wx b cb mb db 0 0) (hc : Grey1 wx cb yb ub vb cy cu cv al cur aft) (hmb : wx.heap[mb]? = some (.cells Mc 48 (0, 0))) (k19 : wx.cell? ⟨mb, 19, none⟩ = some (.int .i64 0)) (k48 : wx.cell? ⟨mb, 48, none⟩ = some (.int .i64 0)) :
    Calls Tryz.prog 53 #[.pointer (some ⟨b, 0, none⟩)] wx fun e w' => e = .returned (.bool true) ∧ SmpAt w' ub (List.replicate 64 128) ∧ SmpAt w' vb (List.replicate 64 128) ∧ Only [ub, vb] wx w' := by
  have bnu : b ≠ ub := block_ne hb hc.us.choose_spec (by decide)
  have cnu : cb ≠ ub := block_ne hc.st hc.us.choose_spec (by decide)
  refine (chroma_drawn (S := List.replicate 64 128) R0 hb hc (by omega) (fun wy p g cp pl _ hp ho => edges_first (ho.heap hb (by simpa using bnu)) (ho.cell (cell0 hc) (by simpa using cnu)) hp (by omega) (by omega) (by omega)) hmb k19 k48 (by simp) (fun i hi => by rw [rep_at _ _ i hi]; decide) (fun wy ao n c hr => chroma_first wy ao n c hr) (by omega) (by simp) (by simp) (fun k hk => by unfold spot; rw [List.length_replicate]; omega) (fun k hk => by unfold spot; rw [List.length_replicate]; omega)).mono ?_
  rintro e w' ⟨rfl, su, sv, ho⟩
  rw [putTo_same 128 _ _ _ _ 64 64 64 (by omega)] at su sv
  exact ⟨rfl, su, sv, ho⟩
theorem chroma_no1 {wx : World} {Mc : Array Value} (m : Int) (hm : m = 1 ∨ m = 2 ∨ m = 3) (hb : BrushAt wx b cb mb db 0 0) (hc : Grey1 wx cb yb ub vb cy cu cv al cur aft) (hmb : wx.heap[mb]? = some (.cells Mc 48 (0, 0))) (k19 : wx.cell? ⟨mb, 19, none⟩ = some (.int .i64 m)) :
    Calls Tryz.prog 53 #[.pointer (some ⟨b, 0, none⟩)] wx fun e w' => e = .returned (.bool false) ∧ Only [] wx w' :=
  chroma_refused R0 hb hc (by omega) (fun wy p g cp pl _ hp ho => edges_first (ho.heap hb (by simp)) (ho.cell (cell0 hc) (by simp)) hp (by omega) (by omega) (by omega)) hmb k19 (fun wy ao n c ⟨h1, h2, h3⟩ => by
    subst h1; subst h2; subst h3
    exact chroma_no m hm _ _ (-1) wy (IntSlice.nil wy) (IntSlice.nil wy) (by omega) (by omega))
theorem whole_no1 {wx : World} (m : Int) (hm : m = 0 ∨ m = 1 ∨ m = 3) (hb : BrushAt wx b cb mb db 0 0) (hc : Grey1 wx cb yb ub vb cy cu cv al cur aft) (k18 : wx.cell? ⟨mb, 18, none⟩ = some (.int .i64 m)) :
    Calls Tryz.prog 55 #[.pointer (some ⟨b, 0, none⟩)] wx fun e w' => e = .returned (.bool false) ∧ Only [] wx w' :=
  whole_refused R0 hb hc (by omega) (fun wy p hp ho => edges_first (ho.heap hb (by simp)) (ho.cell (cell0 hc) (by simp)) hp (by omega) (by omega) (by omega)) k18 (fun wy ao n c ⟨h1, h2, h3⟩ => by
    subst h1; subst h2; subst h3
    exact whole_no m hm _ _ (-1) wy (IntSlice.nil wy) (IntSlice.nil wy) (by omega) (by omega))
end
end Go.Proofs.YtcmehedjdfopdaaGreat

namespace Go.Proofs.YtcmehedjdfopdaaGreat
open Go Go.RowKit

/-- A grey canvas of one macroblock with a slice begun. -/
structure Fresh1 (w : World) (cb yb ub vb sb cy cu cv : Nat) (hq pq : Int) (de : Bool) : Prop where
  c : Grey1 w cb yb ub vb cy cu cv (.slice none 0 0) (.pointer (some ⟨sb, 0, none⟩)) ((0 + 1 : Nat) : Int)
  s : w.heap[sb]? = some (.cells (headI (0 : Nat) (1 : Nat) hq ++ restL de pq ++ ([.int .i64 hq] : List Value)).toArray 89 (0, 0))
/-- What Mb leaves: an even canvas still, one macroblock more or none. -/
def MbLeft (w : World) (cb yb ub vb sb cy cu cv : Nat) (fine : Bool) (e : Ending) (w' : World) : Prop :=
  e = .returned (.int .i64 (if fine then 0 else 2200)) ∧ ∃ ao c, Grey1 w' cb yb ub vb cy cu cv (.slice ao (if fine then 1 else 0) c) (.pointer (some ⟨sb, 0, none⟩)) ((0 + 1 : Nat) : Int) ∧ Only [yb, ub, vb, sb, cb] w w'
theorem lifted0 {qp : Int} {Y' : List Int} (h : Lifted 0 qp Y') : Y' = List.replicate 256 128 := by
  obtain ⟨r, h1, h2, -, rfl⟩ := h
  have : r = 0 := by have := h1 (by omega); have := h2 (by omega); omega
  subst this
  rfl
theorem in_a : ∀ r, r < 16 → ∀ k, k < 16 → (r + k * 0) * (16 * 1) + 0 * 16 + k * 1 < (List.replicate 256 (128 : Int)).length := fun r hr k hk => by rw [List.length_replicate]; omega
theorem in_b : ∀ r, r < 8 → ∀ k, k < 8 → (r + k * 0) * (8 * 1) + 0 * 8 + k * 1 < (List.replicate 64 (128 : Int)).length := fun r hr k hk => by rw [List.length_replicate]; omega
theorem Grey1.of_y {w wx : World} {cb yb ub vb cy cu cv : Nat} {al cur : Value} {aft : Int} (h : Grey1 w cb yb ub vb cy cu cv al cur aft) (hx : Only [yb] w wx) (hy : SmpAt wx yb (List.replicate 256 128)) : Grey1 wx cb yb ub vb cy cu cv al cur aft := by
  have cny : cb ≠ yb := block_ne h.st h.ys.choose_spec (by decide)
  exact ⟨hx.heap h.st (by simpa using cny), hy.sm, h.us.imp fun r g => hx.heap g (by simpa using h.yu.symm), h.vs.imp fun r g => hx.heap g (by simpa using h.yv.symm), hy.ok, h.ou, h.ov, h.yu, h.yv, h.uv⟩

set_option maxRecDepth 100000 in
theorem mb16_any {w : World} {cb yb ub vb sb cy cu cv : Nat} {hq pq qp : Int} {de : Bool} (h : Fresh1 w cb yb ub vb sb cy cu cv hq pq de) (whole chroma : Int) (w0 : 0 ≤ whole) (w1 : whole ≤ 3) (c0 : 0 ≤ chroma) (c1 : chroma ≤ 3) (q0 : 0 ≤ qp) (q1 : qp ≤ 51) :
    Calls Tryz.prog 13 #[.pointer (some ⟨cb, 0, none⟩), .agg (mbL 1 whole chroma qp 0 z16 z28 (.slice none 0 0)).toArray] w (MbLeft w cb yb ub vb sb cy cu cv (decide (whole = 2 ∧ chroma = 0))) := by
  by_cases hf : whole = 2 ∧ chroma = 0
  · obtain ⟨rfl, rfl⟩ := hf
    refine (mb_first (B := 0) (d := 0) (qp := qp) h.c h.s (Nat.zero_le _) q0 q1 (by omega) (by omega)).mono ?_
    rintro e w' ⟨rfl, p0, p1, p2, p3, ao, c7, Y', hG, hc9, -, -, -, o9⟩
    rw [lifted0 hG] at hc9
    exact ⟨rfl, ao, c7, hc9, by simpa [Value.ownBlock] using o9⟩
  · have hM := mbL_is 1 whole chroma qp 0 z16 z28 (.slice none 0 0) z16_len z28_len z16_one z28_one rfl
    have hl : (mbL 1 whole chroma qp 0 z16 z28 (.slice none 0 0)).length = 483 := mbL_length z16_len z28_len
    rw [decide_eq_false hf]
    refine (mb_refused16 (B := 0) (Y := List.replicate 256 128) (U := List.replicate 64 128) (V := List.replicate 64 128) (Y' := List.replicate 256 128) (U' := List.replicate 64 128) (V' := List.replicate 64 128) h.c (by omega) (by omega) (by omega) (by omega) (World.ownsRow_nil _ _ _ _) _ _ rfl rfl h.s (mbL 1 whole chroma qp 0 z16 z28 (.slice none 0 0)) hl rfl (mbL_ps z16_len z28_len 0) (mbL_ps z16_len z28_len 1) (fun i hi => by have := hM.co i hi; rwa [List.getElem?_toArray] at this)
      (told16 whole chroma qp 0 0 1 hq q0 q1 (by omega) (by omega) w0 w1 c0 c1) (refs16 whole chroma qp 0 0 1 hq) rfl rfl rfl ?_).mono ?_
    · intro wx b mb db hb hm hd _ _ _ ho
      have hcx := h.c.only ho (by simp) (by simp) (by simp) (by simp)
      have hA := hM.at hm
      by_cases hw : whole = 2
      · subst hw
        have hch : chroma = 1 ∨ chroma = 2 ∨ chroma = 3 := by omega
        have bny : b ≠ yb := block_ne hb hcx.ys.choose_spec (by decide)
        have cny : cb ≠ yb := block_ne hcx.st hcx.ys.choose_spec (by decide)
        have mny : mb ≠ yb := block_ne hm hcx.ys.choose_spec (by decide)
        have hW : ∀ wy, Only [] wx wy → Calls Tryz.prog 55 #[.pointer (some ⟨b, 0, none⟩)] wy fun e w' => e = .returned (.bool true) ∧ SmpAt w' yb (List.replicate 256 128) ∧ Only [yb] wy w' := by
          intro wy hy
          have hby : BrushAt wy b cb mb db 0 0 := hy.heap hb (by simp)
          have hcy := hcx.only hy (by simp) (by simp) (by simp) (by simp)
          have hdy := hy.heap hd (by simp)
          refine (whole_drawn (S := List.replicate 256 128) (d := 0) (qp := qp) R0 hby hcy (by omega) (fun wz p hp ho => edges_first (ho.heap hby (by simp)) (ho.cell (cell0 hcy) (by simp)) hp (by omega) (by omega) (by omega)) (hy.cell hA.k18 (by simp)) (by simp) (fun i hi => by rw [rep_at _ _ i hi]; decide) (fun wz ao n c hr => whole_first wz ao n c hr)
            (hy.heap hm (by simp)) hdy (by rw [cells_of hdy]; rfl) q0 q1 (by omega) (by omega) (range_only hA.cf.d0 hy (by simp)) (fun k hk => range_only (hA.cf.co k (by omega)) hy (by simp)) (by omega) (by simp) (fun k hk => by unfold spot; rw [List.length_replicate]; omega) (fun k hk j hj => by rw [List.length_replicate]; exact in_one4 k hk j hj)).mono ?_
          rintro e w' ⟨p, r, rfl, r1, r2, -, hp, ho⟩
          have hr0 : r = 0 := by have := r1 (by omega); have := r2 (by omega); omega
          subst hr0
          rw [putTo_same 128 _ _ _ _ 256 256 256 (by omega), lumaTo_one] at hp
          exact ⟨rfl, hp.smpAt, ho⟩
        have := draw_noc16 hb hcx (by omega) (by omega) (by simp) (by simp) (by simp) in_a in_b in_b hA.k0 (Y' := List.replicate 256 128) rfl hW (fun wy hy hs => chroma_no1 chroma hch (hy.heap hb (by simpa using bny)) (Grey1.of_y hcx hy hs) (hy.heap hm (by simpa using mny)) (hy.cell hA.k19 (by simpa using mny)))
        rw [kept1] at this
        exact this
      · have hwn : whole = 0 ∨ whole = 1 ∨ whole = 3 := by omega
        have := draw_nol16 hb hcx (by omega) (by omega) (by simp) (by simp) (by simp) in_a in_b in_b hA.k0 (Y' := List.replicate 256 128) rfl (fun wy hy => (whole_no1 whole hwn (hy.heap hb (by simp)) (hcx.only hy (by simp) (by simp) (by simp) (by simp)) (hy.cell hA.k18 (by simp))).mono fun e w' ⟨h1, h2⟩ => by
          have hcz := (hcx.only hy (by simp) (by simp) (by simp) (by simp)).only h2 (by simp) (by simp) (by simp) (by simp)
          exact ⟨h1, ⟨hcz.ys, hcz.oy⟩, h2.mono (by simp)⟩)
        rw [kept1] at this
        exact this
    · rintro e w' ⟨rfl, hc, ho⟩
      exact ⟨rfl, none, 0, hc, ho.mono (fun i hi => by simp only [List.mem_cons, List.not_mem_nil, or_false] at hi ⊢; omega)⟩

set_option maxRecDepth 100000 in
theorem mb4_any {w : World} {cb yb ub vb sb cy cu cv : Nat} {hq pq : Int} {de : Bool} (h : Fresh1 w cb yb ub vb sb cy cu cv hq pq de) (f : Nat → Int) (m : Nat) (hm9 : m < 9) (hf0 : f 0 = m) (hf : ∀ i, 1 ≤ i → i < 16 → f i = 2) :
    Calls Tryz.prog 13 #[.pointer (some ⟨cb, 0, none⟩), .agg (mbL 0 0 0 0 0 (modesV f) z28 (.slice none 0 0)).toArray] w (MbLeft w cb yb ub vb sb cy cu cv (decide (m = 2))) := by
  have hM := mbL_is 0 0 0 0 0 (modesV f) z28 (.slice none 0 0) (modesV_len f) z28_len (modesV_one f) z28_one rfl
  have hl : (mbL 0 0 0 0 0 (modesV f) z28 (.slice none 0 0)).length = 483 := mbL_length (modesV_len f) z28_len
  have hfr : ∀ i, i < 16 → 0 ≤ f i ∧ f i ≤ 8 := fun i hi => by
    by_cases h0 : i = 0
    · subst h0; rw [hf0]; omega
    · rw [hf i (by omega) hi]; omega
  by_cases hm : m = 2
  · subst hm
    rw [decide_eq_true rfl]
    have hf2 : ∀ i, i < 16 → f i = 2 := fun i hi => by
      by_cases h0 : i = 0
      · rw [h0, hf0]; rfl
      · exact hf i (by omega) hi
    refine (mb_drawnO (B := 0) (Y := List.replicate 256 128) (U := List.replicate 64 128) (V := List.replicate 64 128) (U' := List.replicate 64 128) (V' := List.replicate 64 128) h.c (by omega) (by omega) (by omega) (by omega) (World.ownsRow_nil _ _ _ _) _ _ rfl rfl h.s (Nat.zero_le _) (mbL 0 0 0 0 0 (modesV f) z28 (.slice none 0 0)) hl rfl rfl rfl (mbL_ps (modesV_len f) z28_len 0) (mbL_ps (modesV_len f) z28_len 1) (fun i hi => by have := hM.co i hi; rwa [List.getElem?_toArray] at this)
      (told4 0 f hfr 0 1 hq (by omega) (by omega)) (refs4 0 f 0 1 hq) (fun _ _ => True) stableT (fun Y' => Y' = List.replicate 256 128) (fun Y' h => by rw [h]) rfl rfl ?_).mono ?_
    · intro wx b mb db hb hm hd _ _ _ ho
      have hcx := h.c.only ho (by simp) (by simp) (by simp) (by simp)
      have hA := hM.at hm
      have bny : b ≠ yb := block_ne hb hcx.ys.choose_spec (by decide)
      have mny : mb ≠ yb := block_ne hm hcx.ys.choose_spec (by decide)
      have dny : db ≠ yb := block_ne hd hcx.ys.choose_spec (by decide)
      have dnu : db ≠ ub := block_ne hd hcx.us.choose_spec (by decide)
      have dnv : db ≠ vb := block_ne hd hcx.vs.choose_spec (by decide)
      refine (draw_ok4 hb hcx (by omega) (by omega) (by simp) (by simp) (by simp) in_a in_b in_b hA.k0 (fun Y' => Y' = List.replicate 256 128)
        (fun wy hy => (fours_ok f (hy.heap hb (by simp)) (hcx.only hy (by simp) (by simp) (by simp) (by simp)) (range_only (hM.modes hm) hy (by simp)) hf2 (hy.cell hA.k48 (by simp)) mny).mono fun e w' ⟨h1, h2, h3⟩ => ⟨h1, ⟨_, rfl, h2⟩, h3⟩)
        (fun wy Y' hy hG hs => by subst hG; exact chroma_dc1 (hy.heap hb (by simpa using bny)) (Grey1.of_y hcx hy hs) (hy.heap hm (by simpa using mny)) (hy.cell hA.k19 (by simpa using mny)) (hy.cell hA.k48 (by simpa using mny)))).mono ?_
      rintro e w' ⟨rfl, sy, su, sv, o⟩
      exact ⟨rfl, _, _, _, _, o.heap hd (by simp; exact ⟨dny, dnu, dnv⟩), by simp [Value.oneCell'], sy, su, sv, trivial, o.mono (by simp)⟩
    · rintro e w' ⟨rfl, p0, p1, p2, p3, ao, c7, Y', hG, hc9, -, -, -, o9⟩
      subst hG
      exact ⟨rfl, ao, c7, hc9, by simpa [Value.ownBlock] using o9⟩
  · rw [decide_eq_false hm]
    refine (mb_refusedO (B := 0) (Y := List.replicate 256 128) (U := List.replicate 64 128) (V := List.replicate 64 128) (Y' := List.replicate 256 128) (U' := List.replicate 64 128) (V' := List.replicate 64 128) h.c (by omega) (by omega) (by omega) (by omega) (World.ownsRow_nil _ _ _ _) _ _ rfl rfl h.s (mbL 0 0 0 0 0 (modesV f) z28 (.slice none 0 0)) hl rfl rfl (mbL_ps (modesV_len f) z28_len 0) (mbL_ps (modesV_len f) z28_len 1) (fun i hi => by have := hM.co i hi; rwa [List.getElem?_toArray] at this)
      (told4 0 f hfr 0 1 hq (by omega) (by omega)) (refs4 0 f 0 1 hq) rfl rfl rfl ?_).mono ?_
    · intro wx b mb db hb hm' hd _ _ _ ho
      have hcx := h.c.only ho (by simp) (by simp) (by simp) (by simp)
      have hA := hM.at hm'
      have := draw_nol4 hb hcx (by omega) (by omega) (by simp) (by simp) (by simp) in_a in_b in_b hA.k0 (Y' := List.replicate 256 128) rfl (fun wy hy => (fours_no f m (hy.heap hb (by simp)) (hcx.only hy (by simp) (by simp) (by simp) (by simp)) (range_only (hM.modes hm') hy (by simp)) hf0 hm9 hm).mono fun e w' ⟨h1, h2⟩ => by
        have hcz := (hcx.only hy (by simp) (by simp) (by simp) (by simp)).only h2 (by simp) (by simp) (by simp) (by simp)
        exact ⟨h1, ⟨hcz.ys, hcz.oy⟩, h2.mono (by simp)⟩)
      rw [kept1] at this
      exact this
    · rintro e w' ⟨rfl, hc, ho⟩
      exact ⟨rfl, none, 0, hc, ho.mono (fun i hi => by simp only [List.mem_cons, List.not_mem_nil, or_false] at hi ⊢; omega)⟩
end Go.Proofs.YtcmehedjdfopdaaGreat
