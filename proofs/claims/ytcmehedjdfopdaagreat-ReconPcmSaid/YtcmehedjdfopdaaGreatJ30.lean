/-
  The walks over the law's plain and drawn. The walk over the law ReconLifts.
-/
import Derived.Test.YtcmehedjdfopdaaGreatJ29
namespace Go.Proofs.YtcmehedjdfopdaaGreat
open Go.RowKit

theorem law_plain (w : World) : Calls Tryz.prog 12 #[] w fun e w' => e = .returned (.agg #[.bool false, .bool false, .int .i64 0, .int .i64 0, .int .i64 0, .bool false, .bool false, .int .i64 1, .int .i64 1]) ∧ Only [] w w' := by
  have hi9 : (Tryz.prog.info? 32).map (·.size) = some 9 := by kernel_rfl
  go_enter Tryz.func12, Tryz.ntmps12
  go_wp2
  exact ret_cell rfl w.heap.size rfl (heap_alloc_at w _) Tryz.underlying32 rfl hi9 rfl ⟨rfl, (Only.refl [] w).alloc _⟩

/-- A canvas that was made, with a slice begun. -/
def DrawnOut (wide count : Nat) (hq : Int) (w : World) (e : Ending) (w' : World) : Prop :=
  ∃ cb yb ub vb sb, e = .returned (.tuple #[.pointer (some ⟨cb, 0, none⟩), .bool true]) ∧ CanAt w' cb yb ub vb (256 * (wide * 1)) (64 * (wide * 1)) (64 * (wide * 1)) wide 1 (List.replicate (256 * (wide * 1)) 128) (List.replicate (64 * (wide * 1)) 128) (List.replicate (64 * (wide * 1)) 128) (.slice none 0 0) (.pointer (some ⟨sb, 0, none⟩)) ((0 + count : Nat) : Int) ∧
    w'.heap[sb]? = some (.cells (headI (0 : Nat) count hq ++ restL false 0 ++ ([.int .i64 hq] : List Value)).toArray 89 (0, 0)) ∧ w.heap.size ≤ cb ∧ w.heap.size ≤ yb ∧ w.heap.size ≤ ub ∧ w.heap.size ≤ vb ∧ w.heap.size ≤ sb ∧ Only [] w w'

set_option maxRecDepth 100000 in
set_option maxHeartbeats 3200000 in
theorem law_drawn (wide count : Nat) (hwd : wide = 1 ∨ wide = 2) (hc0 : 1 ≤ count) (hc1 : count ≤ wide) (hq : Int) (q0 : 0 ≤ hq) (q1 : hq ≤ 51) (w : World) :
    Calls Tryz.prog 11 #[.int .i64 wide, .agg #[.int .i64 0, .int .i64 count, .int .i64 2, .int .i64 0, .int .i64 0, .int .i64 0, .bool false, .int .i64 0, .int .i64 0, .slice none 0 0, .slice none 0 0, .int .i64 0, .int .i64 0, .slice none 0 0, .slice none 0 0, .bool false, .slice none 0 0, .int .i64 hq, .bool false, .int .i64 0, .int .i64 0], .agg #[.bool false, .bool false, .int .i64 0, .int .i64 0, .int .i64 0, .bool false, .bool false, .int .i64 1, .int .i64 1], .slice none 0 0, .slice none 0 0, .int .i64 0] w (DrawnOut wide count hq w) := by
  have A0 := Lib.hid (heap_alloc2_old w (.cells #[.int .i64 0, .int .i64 count, .int .i64 2, .int .i64 0, .int .i64 0, .int .i64 0, .bool false, .int .i64 0, .int .i64 0, .slice none 0 0, .slice none 0 0, .int .i64 0, .int .i64 0, .slice none 0 0, .slice none 0 0, .bool false, .slice none 0 0, .int .i64 hq, .bool false, .int .i64 0, .int .i64 0] 27) (.cells #[.bool false, .bool false, .int .i64 0, .int .i64 0, .int .i64 0, .bool false, .bool false, .int .i64 1, .int .i64 1] 32))
  have A1 := Lib.hid (heap_alloc2_new w (.cells #[.int .i64 0, .int .i64 count, .int .i64 2, .int .i64 0, .int .i64 0, .int .i64 0, .bool false, .int .i64 0, .int .i64 0, .slice none 0 0, .slice none 0 0, .int .i64 0, .int .i64 0, .slice none 0 0, .slice none 0 0, .bool false, .slice none 0 0, .int .i64 hq, .bool false, .int .i64 0, .int .i64 0] 27) (.cells #[.bool false, .bool false, .int .i64 0, .int .i64 0, .int .i64 0, .bool false, .bool false, .int .i64 1, .int .i64 1] 32))
  have OA : Hid (Only [] w ((w.alloc (.cells #[.int .i64 0, .int .i64 count, .int .i64 2, .int .i64 0, .int .i64 0, .int .i64 0, .bool false, .int .i64 0, .int .i64 0, .slice none 0 0, .slice none 0 0, .int .i64 0, .int .i64 0, .slice none 0 0, .slice none 0 0, .bool false, .slice none 0 0, .int .i64 hq, .bool false, .int .i64 0, .int .i64 0] 27)).alloc (.cells #[.bool false, .bool false, .int .i64 0, .int .i64 0, .int .i64 0, .bool false, .bool false, .int .i64 1, .int .i64 1] 32))) := Lib.hid (((Only.refl [] w).alloc _).alloc _)
  go_enter Tryz.func11, Tryz.ntmps11
  go_wp2_with fail
  have hzA : ((w.alloc (.cells #[.int .i64 0, .int .i64 count, .int .i64 2, .int .i64 0, .int .i64 0, .int .i64 0, .bool false, .int .i64 0, .int .i64 0, .slice none 0 0, .slice none 0 0, .int .i64 0, .int .i64 0, .slice none 0 0, .slice none 0 0, .bool false, .slice none 0 0, .int .i64 hq, .bool false, .int .i64 0, .int .i64 0] 27)).alloc (.cells #[.bool false, .bool false, .int .i64 0, .int .i64 0, .int .i64 0, .bool false, .bool false, .int .i64 1, .int .i64 1] 32)).heap.size = w.heap.size + 2 := by simp
  generalize (w.alloc (.cells #[.int .i64 0, .int .i64 count, .int .i64 2, .int .i64 0, .int .i64 0, .int .i64 0, .bool false, .int .i64 0, .int .i64 0, .slice none 0 0, .slice none 0 0, .int .i64 0, .int .i64 0, .slice none 0 0, .slice none 0 0, .bool false, .slice none 0 0, .int .i64 hq, .bool false, .int .i64 0, .int .i64 0] 27)).alloc (.cells #[.bool false, .bool false, .int .i64 0, .int .i64 0, .int .i64 0, .bool false, .bool false, .int .i64 1, .int .i64 1] 32) = wa at *
  have hrn := recon_new wide 1 hwd (.inl rfl) wa
  refine hrn.mono ?_
  rintro e w1 ⟨cb, yb, ub, vb, rfl, hc, h1, h2, h3, h4, ho⟩
  have C1 := Lib.hid hc
  have O1 := Lib.hid (OA.out.trans ho)
  have B0 := Lib.hid (ho.heap A0.out (by simp))
  have B1 := Lib.hid (ho.heap A1.out (by simp))
  have hi0 : (Tryz.prog.info? 27).map (·.size) = some (#[.int .i64 0, .int .i64 count, .int .i64 2, .int .i64 0, .int .i64 0, .int .i64 0, .bool false, .int .i64 0, .int .i64 0, .slice none 0 0, .slice none 0 0, .int .i64 0, .int .i64 0, .slice none 0 0, .slice none 0 0, .bool false, .slice none 0 0, .int .i64 hq, .bool false, .int .i64 0, .int .i64 0] : Array Value).size := by kernel_rfl
  have hi1 : (Tryz.prog.info? 32).map (·.size) = some (#[.bool false, .bool false, .int .i64 0, .int .i64 0, .int .i64 0, .bool false, .bool false, .int .i64 1, .int .i64 1] : Array Value).size := by kernel_rfl
  have HI0 := Lib.hid hi0
  have HI1 := Lib.hid hi1
  clear hc ho A0 A1 OA hrn hi0 hi1
  go_wp2_with fail
  refine (num_any _ _).mono ?_
  rintro e w' ⟨rfl, rfl⟩
  go_wp2_with (first
    | (with_reducible refine wpList_load_row rfl _ _ rfl _ rfl _ _ _ _ B0.out Tryz.underlying27 rfl HI0.out ?_)
    | (with_reducible refine wpList_load_row rfl _ _ rfl _ rfl _ _ _ _ B1.out Tryz.underlying32 rfl HI1.out ?_))
  refine (slice_I (n := 0) C1.out (by omega) (by omega) (by omega) count hc0 (by omega) hq q0 q1 false 0 (by omega) (by omega)).mono ?_
  rintro e w3 ⟨sb, rfl, hsb, hs, hc3, o3⟩
  rw [sliceCells 0 count hq false 0] at hs
  have hz1 := O1.out.size
  have O3 := Lib.hid (O1.out.trans' o3 (fun i hi => .inr (by simp only [List.mem_singleton] at hi; omega)))
  have S3 := Lib.hid hs
  have C3 := Lib.hid hc3
  clear hs hc3 o3 O1 C1 B0 B1
  go_wp2_with (first | (go_at_call 14; refine (num_any _ _).mono ?_; rintro e w' ⟨rfl, rfl⟩))
  go_ret2
  exact ⟨cb, yb, ub, vb, sb, rfl, C3.out, S3.out, by omega, by omega, by omega, by omega, by omega, O3.out⟩
end Go.Proofs.YtcmehedjdfopdaaGreat

namespace Go.Proofs.YtcmehedjdfopdaaGreat
open Go.RowKit

set_option maxRecDepth 100000 in
set_option maxHeartbeats 3200000 in
theorem law_lifts (v qp : Int) (w : World) : Calls Tryz.prog 6 #[.int .i64 v, .int .i64 qp] w fun e w' => e = .returned (.bool true) ∧ Only [] w w' := by
  go_enter Tryz.func6, Tryz.ntmps6
  go_wp2_with fail
  refine (awake22 _).mono ?_
  rintro e w1 ⟨rfl, o1⟩
  have O1 := Lib.hid o1
  clear o1
  obtain ⟨k, hk, k0, k1⟩ : ∃ k : Int, wrap64 ((IntKind.u64.wrap qp).tmod 52) = k ∧ 0 ≤ k ∧ k ≤ 51 := by
    refine ⟨_, rfl, ?_⟩
    have h1 : 0 ≤ IntKind.u64.wrap qp := by rw [IntKind.wrap_u64]; omega
    have h2 := Int.tmod_nonneg 52 h1
    have h3 := Int.tmod_lt_of_pos (IntKind.u64.wrap qp) (show (0 : Int) < 52 by decide)
    unfold wrap64
    omega
  obtain ⟨d, hd, d0, d1⟩ : ∃ d : Int, v.tmod 100 = d ∧ -100 < d ∧ d < 100 :=
    ⟨_, rfl, Int.lt_tmod_of_pos v (by decide), Int.tmod_lt_of_pos v (by decide)⟩
  have hset := mbSet16 2 k
  have A4 := Lib.hid (heap_alloc_at w1 (.cells Tryz.zeroCells48 48))
  have O4 := Lib.hid (O1.out.alloc (.cells Tryz.zeroCells48 48))
  have HMS := Lib.hid (mbSize 1 2 0 k 0 z16 z28 (.slice none 0 0) z16_len z28_len)
  have HM1 := Lib.hid (mbL_one 1 2 0 k 0 z16 z28 (.slice none 0 0) z16_len z28_len z16_one z28_one rfl)
  have hz1 := O1.out.size
  go_wp2_with (refine wpList_store_agg rfl _ _ _ rfl w1.heap.size (mbL 1 2 0 k 0 z16 z28 (.slice none 0 0)).toArray rfl rfl A4.out HMS.out (by rw [mbZeroSize, List.size_toArray, mbL_length z16_len z28_len]) HM1.out ?_)
  intro w5 hw5 ho5
  have W5 := Lib.hid hw5
  have O5 := Lib.hid (O4.out.trans' ho5 (fun i hi => .inr (by simp only [List.mem_singleton] at hi; omega)))
  clear hw5 ho5 hset O4 A4 HMS HM1
  have c434 : w5.cell? ⟨w1.heap.size, 434, none⟩ = some (.int .i64 0) := by rw [cells_of W5.out, List.getElem?_toArray]; exact mbL_dc z16_len z28_len 0
  have z434 := free_of W5.out 434
  have W6 : Hid ((w5.setCell ⟨w1.heap.size, 434, none⟩ (.int .i64 d)).heap[w1.heap.size]? = some (.cells (mbL 1 2 0 k d z16 z28 (.slice none 0 0)).toArray 48 (0, 0))) := Lib.hid (by have := heap_set_same (i := 434) (.int .i64 d) W5.out; rw [mbL_setD _ _ _ _ _ _ _ _ _ z16_len z28_len] at this; exact this)
  have O6 : Hid (Only [] w (w5.setCell ⟨w1.heap.size, 434, none⟩ (.int .i64 d))) := Lib.hid (O5.out.setCell (.inr (by simp only; omega)) _)
  have HMS := Lib.hid (mbSize 1 2 0 k d z16 z28 (.slice none 0 0) z16_len z28_len)
  go_wp2_with fail
  clear c434 z434 O5 W5 O1
  generalize w5.setCell ⟨w1.heap.size, 434, none⟩ (.int .i64 d) = w6 at *
  generalize w1.heap.size = mb at *
  refine (law_plain _).mono ?_
  rintro e w7 ⟨rfl, o7⟩
  have W7 := Lib.hid (o7.heap W6.out (by simp))
  have O7 := Lib.hid (O6.out.trans o7)
  have hm7 := lt_of_block W7.out
  clear o7 W6 O6
  go_wp2_with fail
  refine (law_drawn 1 1 (.inl rfl) (by omega) (by omega) 30 (by omega) (by omega) _).mono ?_
  rintro e w8 ⟨cb, yb, ub, vb, sb, rfl, hc8, hs8, h1, h2, h3, h4, h5, o8⟩
  have C8 : Hid (CanAt w8 cb yb ub vb 256 64 64 1 1 (List.replicate 256 128) (List.replicate 64 128) (List.replicate 64 128) (.slice none 0 0) (.pointer (some ⟨sb, 0, none⟩)) ((0 + 1 : Nat) : Int)) := Lib.hid hc8
  have S8 := Lib.hid hs8
  have W8 := Lib.hid (o8.heap W7.out (by simp))
  have O8 := Lib.hid (O7.out.trans o8)
  have hz7 := O7.out.size
  clear hc8 hs8 o8 W7 O7
  go_wp2_with (with_reducible refine wpList_load_row rfl _ _ rfl _ rfl _ _ _ _ W8.out Tryz.underlying48 rfl HMS.out ?_)
  refine (mb_first (w := w8) (B := w.heap.size) (d := d) (qp := k) C8.out S8.out (by omega) k0 k1 (by omega) (by omega)).mono ?_
  rintro e w9 ⟨rfl, p0, p1, p2, p3, ao, c7, Y', hG, hc9, -, -, -, o9⟩
  have o9' : Only [yb, ub, vb, sb, cb] w8 w9 := by simpa [Value.ownBlock] using o9
  have O9 := Lib.hid (O8.out.trans' o9' (fun i hi => .inr (by simp only [List.mem_cons, List.not_mem_nil, or_false] at hi; omega)))
  have HG := Lib.hid hG
  have C9 := Lib.hid hc9
  clear o9 o9' hG hc9 W8 O8 C8 S8
  go_wp2_with fail
  refine (canvas_raw C9.out (HG.out.len) (by rw [List.length_replicate]) (by rw [List.length_replicate]) (by omega) (by omega) (by omega) (by omega) (by omega) (by omega)).mono ?_
  rintro e w10 ⟨f, rfl, ⟨g1, q1, g2, q2, g3, q3, rfl, f1, f2, f3⟩, o10⟩
  obtain ⟨r, r1, r2, -, hYr⟩ := HG.out
  obtain ⟨y, hyv⟩ : ∃ y, y = clip8 (128 + (r + 32) / 64) := ⟨_, rfl⟩
  have hy : (0 ≤ d → 128 ≤ y) ∧ (d ≤ 0 → y ≤ 128) ∧ 0 ≤ y ∧ y ≤ 255 := by
    rw [hyv]
    unfold clip8
    refine ⟨fun h => ?_, fun h => ?_, by omega, by omega⟩
    · have := r1 h; omega
    · have := r2 h; omega
  rw [← hyv] at hYr
  have fy : ∀ i, i < 256 → w10.cell? ⟨g1, i, none⟩ = some (.int .u8 y) := fun i hi => by
    have := u8_at f1 (by rw [HG.out.len]) i (by rw [HG.out.len]; omega)
    rw [hYr, rep_at _ _ i hi] at this
    exact this
  have fu : ∀ i, i < 64 → w10.cell? ⟨g2, i, none⟩ = some (.int .u8 128) := fun i hi => by
    have := u8_at f2 (by rw [List.length_replicate]) i (by rw [List.length_replicate]; omega)
    rw [rep_at _ _ i hi] at this
    exact this
  have fv : ∀ i, i < 64 → w10.cell? ⟨g3, i, none⟩ = some (.int .u8 128) := fun i hi => by
    have := u8_at f3 (by rw [List.length_replicate]) i (by rw [List.length_replicate]; omega)
    rw [rep_at _ _ i hi] at this
    exact this
  have FY := Lib.hid (fun i hi => cell_alloc (o := (.cells #[.int .i64 16, .int .i64 16, .slice (some ⟨g1, 0, none⟩) 256 q1, .slice (some ⟨g2, 0, none⟩) 64 q2, .slice (some ⟨g3, 0, none⟩) 64 q3] 54)) (fy i hi))
  have FU := Lib.hid (fun i hi => cell_alloc (o := (.cells #[.int .i64 16, .int .i64 16, .slice (some ⟨g1, 0, none⟩) 256 q1, .slice (some ⟨g2, 0, none⟩) 64 q2, .slice (some ⟨g3, 0, none⟩) 64 q3] 54)) (fu i hi))
  have FV := Lib.hid (fun i hi => cell_alloc (o := (.cells #[.int .i64 16, .int .i64 16, .slice (some ⟨g1, 0, none⟩) 256 q1, .slice (some ⟨g2, 0, none⟩) 64 q2, .slice (some ⟨g3, 0, none⟩) 64 q3] 54)) (fv i hi))
  have O10 := Lib.hid (O9.out.trans (o10.alloc (.cells #[.int .i64 16, .int .i64 16, .slice (some ⟨g1, 0, none⟩) 256 q1, .slice (some ⟨g2, 0, none⟩) 64 q2, .slice (some ⟨g3, 0, none⟩) 64 q3] 54)))
  have B10 := Lib.hid (heap_alloc_at w10 (.cells #[.int .i64 16, .int .i64 16, .slice (some ⟨g1, 0, none⟩) 256 q1, .slice (some ⟨g2, 0, none⟩) 64 q2, .slice (some ⟨g3, 0, none⟩) 64 q3] 54))
  clear f1 f2 f3 o10 C9 O9 fy fu fv hYr hyv r1 r2 HG
  obtain ⟨y1, y2, y3, y4⟩ := hy
  go_wp2_with fail
  generalize w10.alloc (.cells #[.int .i64 16, .int .i64 16, .slice (some ⟨g1, 0, none⟩) 256 q1, .slice (some ⟨g2, 0, none⟩) 64 q2, .slice (some ⟨g3, 0, none⟩) 64 q3] 54) = w11 at *
  generalize w10.heap.size = fb at *
  have b2 : w11.cell? ⟨fb, 2, none⟩ = some (.slice (some ⟨g1, 0, none⟩) 256 q1) := by rw [cells_of B10.out]; rfl
  have b3 : w11.cell? ⟨fb, 3, none⟩ = some (.slice (some ⟨g2, 0, none⟩) 64 q2) := by rw [cells_of B10.out]; rfl
  have b4 : w11.cell? ⟨fb, 4, none⟩ = some (.slice (some ⟨g3, 0, none⟩) 64 q3) := by rw [cells_of B10.out]; rfl
  refine (num_any _ _).mono ?_
  rintro e w' ⟨rfl, rfl⟩
  go_wp2
  go_loopw [11] (fun q wr => ∃ j : Nat, j ≤ 256 ∧ q = .int .i64 j ∧ Only [] w11 wr) (fun q _ => 256 - (intOf q).toNat)
  case atStart => exact ⟨0, by omega, rfl, Only.refl _ _⟩
  case round =>
    obtain ⟨j, hj, rfl, ho⟩ := hrel
    have c2 := ho.cell b2 (by simp)
    have c3 := ho.cell b3 (by simp)
    have c4 := ho.cell b4 (by simp)
    have e0 := ho.cell (FY.out 0 (by omega)) (by simp)
    by_cases hlt : j < 256
    · have e1 := ho.cell (FY.out j hlt) (by simp)
      have HO := Lib.hid ho
      by_cases h64 : j < 64
      · have e2 := ho.cell (FU.out j h64) (by simp)
        have e3 := ho.cell (FV.out j h64) (by simp)
        have hb64 : decide ((j : Int) < 64) = true := by simp; omega
        clear ho y1 y2
        go_wp2_with fail
        go_quiet (fail)
        go_wp2
        go_roundw
        case rel => exact ⟨j + 1, by omega, by go_num, HO.out.drewN _⟩
        case measure => simp [intOf] <;> omega
      · have hb64 : decide ((j : Int) < 64) = false := by simp; omega
        clear ho y1 y2
        go_wp2_with fail
        go_quiet (fail)
        go_wp2
        go_roundw
        case rel => exact ⟨j + 1, by omega, by go_num, HO.out.drewN _⟩
        case measure => simp [intOf] <;> omega
    · have hj256 : 256 ≤ j := by omega
      have HO := Lib.hid (O10.out.trans ho)
      clear ho
      rcases Int.lt_trichotomy d 0 with hneg | rfl | hpos
      · have hy := y2 (by omega)
        clear y1 y2
        go_wp2
        go_ret
        exact ⟨rfl, HO.out⟩
      · have hy : y = 128 := by have := y1 (by omega); have := y2 (by omega); omega
        clear y1 y2
        subst hy
        go_wp2
        go_ret
        exact ⟨rfl, HO.out⟩
      · have hy := y1 (by omega)
        clear y1 y2
        go_wp2
        go_ret
        exact ⟨rfl, HO.out⟩
end Go.Proofs.YtcmehedjdfopdaaGreat
