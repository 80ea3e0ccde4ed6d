/-
  The walk over package quant's DcDequant for a lowest coefficient alone. The walks over package intra's sums.
-/
import Derived.Test.YtcmehedjdfopdaaGreatJ07
import Derived.Test.YtcmehedjdfopdaaGreatJ05
import Derived.Test.YtcmehedjdfopdaaGreatJ06
namespace Go.Proofs.YtcmehedjdfopdaaGreat
open Go.RowKit

theorem mul_bd (d m : Int) (d0 : -200 ≤ d) (d1 : d ≤ 200) (m0 : 10 ≤ m) (m1 : m ≤ 1152) : (0 ≤ d → 10 * d ≤ d * m ∧ d * m ≤ 230400) ∧ (d ≤ 0 → d * m ≤ 0 ∧ -230400 ≤ d * m) := by
  refine ⟨fun h => ?_, fun h => ?_⟩
  · have h1 := Int.mul_nonneg h (show 0 ≤ m - 10 by omega)
    have h2 := Int.mul_nonneg h (show 0 ≤ 1152 - m by omega)
    rw [Int.mul_sub] at h1 h2
    omega
  · have h1 := Int.mul_nonneg (show 0 ≤ -d by omega) (show 0 ≤ m by omega)
    have h2 := Int.mul_nonneg (show 0 ≤ -d by omega) (show 0 ≤ 1152 - m by omega)
    rw [Int.mul_sub] at h2
    simp only [Int.neg_mul] at h1 h2
    omega
/-- What DcDequant makes of a lowest coefficient. -/
def dcR (d v : Int) (a : Nat) : Int := if a < 2 then (d * v + 2 ^ (1 - a)) / 2 ^ (2 - a) else d * (v * 2 ^ (a - 2))
theorem dcR_bd (d v : Int) (a : Nat) (d0 : -200 ≤ d) (d1 : d ≤ 200) (v0 : 10 ≤ v) (v1 : v ≤ 18) (ha : a < 9) :
    (0 ≤ d → 0 ≤ dcR d v a) ∧ (d ≤ 0 → dcR d v a ≤ 0) ∧ (2 ≤ a → 0 ≤ d → 10 * d ≤ dcR d v a) ∧ -1000000 ≤ dcR d v a ∧ dcR d v a ≤ 1000000 := by
  have h1 := mul_bd d v d0 d1 v0 (by omega)
  rcases (show a = 0 ∨ a = 1 ∨ a = 2 ∨ a = 3 ∨ a = 4 ∨ a = 5 ∨ a = 6 ∨ a = 7 ∨ a = 8 by omega) with rfl | rfl | rfl | rfl | rfl | rfl | rfl | rfl | rfl
  · have e : dcR d v 0 = (d * v + 2) / 4 := rfl
    rw [e]; omega
  · have e : dcR d v 1 = (d * v + 1) / 2 := rfl
    rw [e]; omega
  · have e : dcR d v 2 = d * (v * 1) := rfl
    have h2 := mul_bd d (v * 1) d0 d1 (by omega) (by omega)
    rw [e]; omega
  · have e : dcR d v 3 = d * (v * 2) := rfl
    have h2 := mul_bd d (v * 2) d0 d1 (by omega) (by omega)
    rw [e]; omega
  · have e : dcR d v 4 = d * (v * 4) := rfl
    have h2 := mul_bd d (v * 4) d0 d1 (by omega) (by omega)
    rw [e]; omega
  · have e : dcR d v 5 = d * (v * 8) := rfl
    have h2 := mul_bd d (v * 8) d0 d1 (by omega) (by omega)
    rw [e]; omega
  · have e : dcR d v 6 = d * (v * 16) := rfl
    have h2 := mul_bd d (v * 16) d0 d1 (by omega) (by omega)
    rw [e]; omega
  · have e : dcR d v 7 = d * (v * 32) := rfl
    have h2 := mul_bd d (v * 32) d0 d1 (by omega) (by omega)
    rw [e]; omega
  · have e : dcR d v 8 = d * (v * 64) := rfl
    have h2 := mul_bd d (v * 64) d0 d1 (by omega) (by omega)
    rw [e]; omega
theorem i64c (n : Int) (h0 : -9223372036854775808 ≤ n) (h1 : n ≤ 9223372036854775807) : IntKind.i64.wrap n = n := IntWalk.i64_in n (by constructor <;> omega)
theorem qv_first (b : Nat) (hb : b < 6) : 10 ≤ qvL.getD (b * 3) 0 ∧ qvL.getD (b * 3) 0 ≤ 18 := by
  rcases (show b = 0 ∨ b = 1 ∨ b = 2 ∨ b = 3 ∨ b = 4 ∨ b = 5 by omega) with rfl | rfl | rfl | rfl | rfl | rfl <;> decide

set_option maxRecDepth 100000 in
set_option maxHeartbeats 3200000 in
theorem qu_dc (d qp : Int) (w : World) (d0 : -200 ≤ d) (d1 : d ≤ 200) (q0 : 0 ≤ qp) (q1 : qp ≤ 51) :
    Calls Tryz.prog 86 #[.agg (ints (dcL d)), .int .i64 qp] w fun e w' => ∃ r : Int, e = .returned (.tuple #[.agg (ints (List.replicate 16 r)), .int .i64 0]) ∧ (0 ≤ d → 0 ≤ r) ∧ (d ≤ 0 → r ≤ 0) ∧ (12 ≤ qp → 0 ≤ d → 10 * d ≤ r) ∧ -1000000 ≤ r ∧ r ≤ 1000000 ∧ Only [] w w' := by
  have hA := heap_alloc2_old w (.cells (ints (dcL d)) 36) (.cells #[.int .i64 0, .int .i64 0, .int .i64 0, .int .i64 0, .int .i64 0, .int .i64 0, .int .i64 0, .int .i64 0, .int .i64 0, .int .i64 0, .int .i64 0, .int .i64 0, .int .i64 0, .int .i64 0, .int .i64 0, .int .i64 0] 36)
  obtain ⟨Z, hZ⟩ : ∃ z, z = ints (dcL d) := ⟨_, rfl⟩
  have hzs : Z.size = 16 := by rw [hZ, ints_size, dcL_length]
  have hm := fun (wx : World) (hx : wx.heap[w.heap.size]? = some (.cells (ints (dcL d)) 36 (0, 0))) => qu_may qp 32767 (.slice (some ⟨w.heap.size, 0, none⟩) 16 16) (dcL d) wx (IntSlice.of_row hx (dcL_length d)) (by rw [dcL_length]; omega) (fun i _ => by rw [dcL_at]; split <;> omega) (by omega) (by omega) q0 q1
  obtain ⟨b, hb, hb6⟩ : ∃ b : Nat, qp % 6 = (b : Int) ∧ b < 6 := ⟨(qp % 6).toNat, by omega, by omega⟩
  obtain ⟨a, ha, ha9⟩ : ∃ a : Nat, qp / 6 = (a : Int) ∧ a < 9 := ⟨(qp / 6).toNat, by omega, by omega⟩
  have hv := qv_first b hb6
  obtain ⟨v, hvv⟩ : ∃ v, v = qvL.getD (b * 3) 0 := ⟨_, rfl⟩
  rw [← hvv] at hv
  have hhad := fun w => xf_had d w (by omega) (by omega)
  obtain ⟨R, hR⟩ : ∃ R, R = ints (List.replicate 16 d) := ⟨_, rfl⟩
  have hrs : R.size = 16 := by rw [hR, ints_size, List.length_replicate]
  have hr1 : R.all (·.oneCell') = true := by rw [hR]; exact ints_one _
  have hB := heap_alloc2_new w (.cells (ints (dcL d)) 36) (.cells #[.int .i64 0, .int .i64 0, .int .i64 0, .int .i64 0, .int .i64 0, .int .i64 0, .int .i64 0, .int .i64 0, .int .i64 0, .int .i64 0, .int .i64 0, .int .i64 0, .int .i64 0, .int .i64 0, .int .i64 0, .int .i64 0] 36)
  rw [← hZ] at hA hm hhad hB
  rw [← hR] at hhad
  rw [← hZ]
  have HA := Lib.hid hA
  have HB := Lib.hid hB
  have HM := Lib.hid hm
  have Hzs := Lib.hid hzs
  have Hhad := Lib.hid hhad
  have HR := Lib.hid hR
  have Hrs := Lib.hid hrs
  have Hr1 := Lib.hid hr1
  have Hvv := Lib.hid hvv
  clear hA hB hm hzs hZ hhad hR hrs hr1 hvv
  go_enter Tryz.func86, Tryz.ntmps86
  go_wp2_with fail
  refine (HM.out _ HA.out).mono ?_
  rintro r w1 ⟨rfl, rfl⟩
  clear HM
  go_wp2_with fail
  refine (qu_get (w.heap.size + 1 + 1) _ (heap3_2 _ _ _ _)).mono ?_
  rintro r w2 ⟨rfl, g1, g2⟩
  have A2 := Lib.hid (g2.heap (heap3_0 _ _ _ _) (by simp <;> omega))
  have B2 := Lib.hid (g2.heap (heap3_1 _ _ _ _) (by simp <;> omega))
  have O2 : Hid (Only [] w w2) := Lib.hid ((only3 _ _ _ _).trans' g2 (by simp <;> omega))
  have V2 : w2.cell? ⟨w.heap.size + 1 + 1, 21 + b * 3, none⟩ = some (.int .i64 v) := by rw [Hvv.out]; exact qu_v g1 (b * 3) (by omega)
  have hs2 : w.heap.size + 1 + 1 < w2.heap.size := lt_of_block g1
  clear g1 g2 HA HB
  have qb : qp.tmod 6 = (b : Int) := by rw [Int.tmod_eq_emod_of_nonneg q0]; exact hb
  go_wp2_with (with_reducible refine wpList_load_row rfl _ _ rfl _ rfl _ _ _ _ A2.out Tryz.underlying36 rfl (by rw [Hzs.out]; kernel_rfl) ?_)
  refine (Hhad.out _).mono ?_
  rintro r w3 ⟨rfl, g1⟩
  have O3 := Lib.hid (O2.out.trans g1)
  have B3 := Lib.hid (g1.heap B2.out (by simp))
  have hs3 := g1.size
  clear g1 A2 V2
  have C4 := Lib.hid (heap_alloc_at w3 (.cells #[.int .i64 0, .int .i64 0, .int .i64 0, .int .i64 0, .int .i64 0, .int .i64 0, .int .i64 0, .int .i64 0, .int .i64 0, .int .i64 0, .int .i64 0, .int .i64 0, .int .i64 0, .int .i64 0, .int .i64 0, .int .i64 0] 36))
  have B4 := Lib.hid (heap_alloc_lt (.cells #[.int .i64 0, .int .i64 0, .int .i64 0, .int .i64 0, .int .i64 0, .int .i64 0, .int .i64 0, .int .i64 0, .int .i64 0, .int .i64 0, .int .i64 0, .int .i64 0, .int .i64 0, .int .i64 0, .int .i64 0, .int .i64 0] 36) B3.out)
  have O4 := Lib.hid (O3.out.alloc (.cells #[.int .i64 0, .int .i64 0, .int .i64 0, .int .i64 0, .int .i64 0, .int .i64 0, .int .i64 0, .int .i64 0, .int .i64 0, .int .i64 0, .int .i64 0, .int .i64 0, .int .i64 0, .int .i64 0, .int .i64 0, .int .i64 0] 36))
  go_wp2_with (refine wpList_store_agg rfl _ _ _ rfl _ _ rfl rfl C4.out (by rw [Hrs.out]; kernel_rfl) (by rw [Hrs.out]; rfl) Hr1.out ?_)
  intro w4 hw4 ho4
  have W4 : Hid (w4.heap[w3.heap.size]? = some (.cells (ints (shTo d 0 0)) 36 (0, 0))) := Lib.hid (by rw [hw4, HR.out]; rfl)
  have B5 := Lib.hid (ho4.heap B4.out (by simp; omega))
  have O5 := Lib.hid (O4.out.trans' ho4 (by have := O3.out.size; simp; omega))
  clear hw4 ho4 B4 O4 C4 B3 B2 O2 O3
  have hbd := dcR_bd d v a d0 d1 hv.1 hv.2 ha9
  obtain ⟨r, hr⟩ : ∃ r, r = dcR d v a := ⟨_, rfl⟩
  rw [← hr] at hbd
  obtain ⟨r1, r2, r3, r4, r5⟩ := hbd
  have r3' : 12 ≤ qp → 0 ≤ d → 10 * d ≤ r := fun h1 h2 => r3 (by omega) h2
  have R1 := Lib.hid r1
  have R2 := Lib.hid r2
  have R3 := Lib.hid r3'
  have Hr := Lib.hid hr
  clear r1 r2 r3 r3' hr
  go_wp2
  go_loopw [26] (fun q wr => ∃ k : Nat, k ≤ 16 ∧ q = .int .i64 k ∧ wr.heap[w3.heap.size]? = some (.cells (ints (shTo d r k)) 36 (0, 0)) ∧ (∃ z : Array Value, z.size = 16 ∧ wr.heap[w.heap.size + 1]? = some (.cells z 36 (0, 0))) ∧ Only [] w wr) (fun q _ => 16 - (intOf q).toNat)
  case atStart => exact ⟨0, by omega, rfl, W4.out, ⟨_, rfl, B5.out⟩, O5.out⟩
  case round =>
    obtain ⟨k, hk, rfl, hb2, ⟨z, hz, hrz⟩, ho⟩ := hrel
    by_cases hlt : k < 16
    · have c1 := cells_of hb2 k
      rw [ints_at _ _ (by rw [shTo_length _ _ _ hk]; exact hlt), shTo_at _ _ _ hlt] at c1
      have z1 := free_of hb2 k
      have hs := heap_set_same (i := k) (.int .i64 r) hb2
      rw [ints_setIf, shTo_set _ _ _ hlt] at hs
      have S1 := Lib.hid hs
      have S2 := Lib.hid (heap_set_other (b := w3.heap.size) (i := k) (.int .i64 r) hrz (by omega))
      have S3 := Lib.hid (ho.setCell (p := ⟨w3.heap.size, k, none⟩) (.inr (show w.heap.size ≤ w3.heap.size by omega)) (.int .i64 r))
      have b2 : (k : Int) < 16 := by omega
      clear hs hb2 hrz ho
      by_cases hlo : a < 2
      · rcases (show a = 0 ∨ a = 1 by omega) with rfl | rfl
        · have hb1 := mul_bd d v d0 d1 hv.1 (by omega)
          obtain ⟨t, ht⟩ : ∃ t, t = d * v := ⟨_, rfl⟩
          have hdr : dcR d v 0 = (d * v + 2) / 4 := rfl
          have z1x : IntKind.i64.wrap (d * v) = t := by rw [ht]; exact i64c _ (by omega) (by omega)
          have z2x : IntKind.i64.wrap (t + 2) = t + 2 := by rw [ht]; exact i64c _ (by omega) (by omega)
          have z3x : (t + 2) / 4 = r := by rw [Hr.out, hdr, ht]
          clear hb1 hdr ht
          have qt : qp.tdiv 6 = qp / 6 := Int.tdiv_eq_ediv_of_nonneg q0
          rw [ha] at qt
          have e0 : IntKind.i64.wrap 0 = 0 := by decide
          have e1 : IntKind.i64.wrap 1 = 1 := by decide
          have e2 : IntKind.i64.wrap 2 = 2 := by decide
          have e3 : IntKind.i64.wrap 3 = 3 := by decide
          have e4 : IntKind.i64.wrap 4 = 4 := by decide
          have e5 : IntKind.i64.wrap 5 = 5 := by decide
          have e6 : IntKind.i64.wrap 6 = 6 := by decide
          have e7 : IntKind.i64.wrap 7 = 7 := by decide
          have e8 : IntKind.i64.wrap 8 = 8 := by decide
          simp only [Int.cast_ofNat_Int] at qt
          go_wp2
          go_still_tail 16, (by kernel_rfl)
          change wpList _ _ _ _ _ wr.drew
          go_wp2
          go_roundw
          case rel => exact ⟨k + 1, by omega, by go_num, S1.out, ⟨z, hz, S2.out⟩, S3.out.drew⟩
          case measure => simp [intOf] <;> omega
        · have hb1 := mul_bd d v d0 d1 hv.1 (by omega)
          obtain ⟨t, ht⟩ : ∃ t, t = d * v := ⟨_, rfl⟩
          have hdr : dcR d v 1 = (d * v + 1) / 2 := rfl
          have z1x : IntKind.i64.wrap (d * v) = t := by rw [ht]; exact i64c _ (by omega) (by omega)
          have z2x : IntKind.i64.wrap (t + 1) = t + 1 := by rw [ht]; exact i64c _ (by omega) (by omega)
          have z3x : (t + 1) / 2 = r := by rw [Hr.out, hdr, ht]
          clear hb1 hdr ht
          have qt : qp.tdiv 6 = qp / 6 := Int.tdiv_eq_ediv_of_nonneg q0
          rw [ha] at qt
          have e0 : IntKind.i64.wrap 0 = 0 := by decide
          have e1 : IntKind.i64.wrap 1 = 1 := by decide
          have e2 : IntKind.i64.wrap 2 = 2 := by decide
          have e3 : IntKind.i64.wrap 3 = 3 := by decide
          have e4 : IntKind.i64.wrap 4 = 4 := by decide
          have e5 : IntKind.i64.wrap 5 = 5 := by decide
          have e6 : IntKind.i64.wrap 6 = 6 := by decide
          have e7 : IntKind.i64.wrap 7 = 7 := by decide
          have e8 : IntKind.i64.wrap 8 = 8 := by decide
          simp only [Int.cast_ofNat_Int] at qt
          go_wp2
          go_still_tail 16, (by kernel_rfl)
          change wpList _ _ _ _ _ wr.drew
          go_wp2
          go_roundw
          case rel => exact ⟨k + 1, by omega, by go_num, S1.out, ⟨z, hz, S2.out⟩, S3.out.drew⟩
          case measure => simp [intOf] <;> omega
      · rcases (show a = 2 ∨ a = 3 ∨ a = 4 ∨ a = 5 ∨ a = 6 ∨ a = 7 ∨ a = 8 by omega) with rfl | rfl | rfl | rfl | rfl | rfl | rfl
        · have hb1 := mul_bd d (v * 1) d0 d1 (by omega) (by omega)
          have hdr : dcR d v 2 = d * (v * 1) := rfl
          obtain ⟨t, ht⟩ : ∃ t, t = v * 1 := ⟨_, rfl⟩
          have z1x : IntKind.i64.wrap (v) = t := by rw [show v = v * 1 by omega, ← ht]; exact i64c _ (by omega) (by omega)
          have z2x : IntKind.i64.wrap (d * t) = r := by rw [Hr.out, hdr, ht]; exact i64c _ (by omega) (by omega)
          clear hb1 hdr ht
          have qt : qp.tdiv 6 = qp / 6 := Int.tdiv_eq_ediv_of_nonneg q0
          rw [ha] at qt
          have e0 : IntKind.i64.wrap 0 = 0 := by decide
          have e1 : IntKind.i64.wrap 1 = 1 := by decide
          have e2 : IntKind.i64.wrap 2 = 2 := by decide
          have e3 : IntKind.i64.wrap 3 = 3 := by decide
          have e4 : IntKind.i64.wrap 4 = 4 := by decide
          have e5 : IntKind.i64.wrap 5 = 5 := by decide
          have e6 : IntKind.i64.wrap 6 = 6 := by decide
          have e7 : IntKind.i64.wrap 7 = 7 := by decide
          have e8 : IntKind.i64.wrap 8 = 8 := by decide
          simp only [Int.cast_ofNat_Int] at qt
          go_wp2
          go_still_tail 10, (by kernel_rfl)
          change wpList _ _ _ _ _ wr.drew
          go_wp2
          go_roundw
          case rel => exact ⟨k + 1, by omega, by go_num, S1.out, ⟨z, hz, S2.out⟩, S3.out.drew⟩
          case measure => simp [intOf] <;> omega
        · have hb1 := mul_bd d (v * 2) d0 d1 (by omega) (by omega)
          have hdr : dcR d v 3 = d * (v * 2) := rfl
          obtain ⟨t, ht⟩ : ∃ t, t = v * 2 := ⟨_, rfl⟩
          have z1x : IntKind.i64.wrap (v * 2) = t := by rw [← ht]; exact i64c _ (by omega) (by omega)
          have z2x : IntKind.i64.wrap (d * t) = r := by rw [Hr.out, hdr, ht]; exact i64c _ (by omega) (by omega)
          clear hb1 hdr ht
          have qt : qp.tdiv 6 = qp / 6 := Int.tdiv_eq_ediv_of_nonneg q0
          rw [ha] at qt
          have e0 : IntKind.i64.wrap 0 = 0 := by decide
          have e1 : IntKind.i64.wrap 1 = 1 := by decide
          have e2 : IntKind.i64.wrap 2 = 2 := by decide
          have e3 : IntKind.i64.wrap 3 = 3 := by decide
          have e4 : IntKind.i64.wrap 4 = 4 := by decide
          have e5 : IntKind.i64.wrap 5 = 5 := by decide
          have e6 : IntKind.i64.wrap 6 = 6 := by decide
          have e7 : IntKind.i64.wrap 7 = 7 := by decide
          have e8 : IntKind.i64.wrap 8 = 8 := by decide
          simp only [Int.cast_ofNat_Int] at qt
          go_wp2
          go_still_tail 10, (by kernel_rfl)
          change wpList _ _ _ _ _ wr.drew
          go_wp2
          go_roundw
          case rel => exact ⟨k + 1, by omega, by go_num, S1.out, ⟨z, hz, S2.out⟩, S3.out.drew⟩
          case measure => simp [intOf] <;> omega
        · have hb1 := mul_bd d (v * 4) d0 d1 (by omega) (by omega)
          have hdr : dcR d v 4 = d * (v * 4) := rfl
          obtain ⟨t, ht⟩ : ∃ t, t = v * 4 := ⟨_, rfl⟩
          have z1x : IntKind.i64.wrap (v * 4) = t := by rw [← ht]; exact i64c _ (by omega) (by omega)
          have z2x : IntKind.i64.wrap (d * t) = r := by rw [Hr.out, hdr, ht]; exact i64c _ (by omega) (by omega)
          clear hb1 hdr ht
          have qt : qp.tdiv 6 = qp / 6 := Int.tdiv_eq_ediv_of_nonneg q0
          rw [ha] at qt
          have e0 : IntKind.i64.wrap 0 = 0 := by decide
          have e1 : IntKind.i64.wrap 1 = 1 := by decide
          have e2 : IntKind.i64.wrap 2 = 2 := by decide
          have e3 : IntKind.i64.wrap 3 = 3 := by decide
          have e4 : IntKind.i64.wrap 4 = 4 := by decide
          have e5 : IntKind.i64.wrap 5 = 5 := by decide
          have e6 : IntKind.i64.wrap 6 = 6 := by decide
          have e7 : IntKind.i64.wrap 7 = 7 := by decide
          have e8 : IntKind.i64.wrap 8 = 8 := by decide
          simp only [Int.cast_ofNat_Int] at qt
          go_wp2
          go_still_tail 10, (by kernel_rfl)
          change wpList _ _ _ _ _ wr.drew
          go_wp2
          go_roundw
          case rel => exact ⟨k + 1, by omega, by go_num, S1.out, ⟨z, hz, S2.out⟩, S3.out.drew⟩
          case measure => simp [intOf] <;> omega
        · have hb1 := mul_bd d (v * 8) d0 d1 (by omega) (by omega)
          have hdr : dcR d v 5 = d * (v * 8) := rfl
          obtain ⟨t, ht⟩ : ∃ t, t = v * 8 := ⟨_, rfl⟩
          have z1x : IntKind.i64.wrap (v * 8) = t := by rw [← ht]; exact i64c _ (by omega) (by omega)
          have z2x : IntKind.i64.wrap (d * t) = r := by rw [Hr.out, hdr, ht]; exact i64c _ (by omega) (by omega)
          clear hb1 hdr ht
          have qt : qp.tdiv 6 = qp / 6 := Int.tdiv_eq_ediv_of_nonneg q0
          rw [ha] at qt
          have e0 : IntKind.i64.wrap 0 = 0 := by decide
          have e1 : IntKind.i64.wrap 1 = 1 := by decide
          have e2 : IntKind.i64.wrap 2 = 2 := by decide
          have e3 : IntKind.i64.wrap 3 = 3 := by decide
          have e4 : IntKind.i64.wrap 4 = 4 := by decide
          have e5 : IntKind.i64.wrap 5 = 5 := by decide
          have e6 : IntKind.i64.wrap 6 = 6 := by decide
          have e7 : IntKind.i64.wrap 7 = 7 := by decide
          have e8 : IntKind.i64.wrap 8 = 8 := by decide
          simp only [Int.cast_ofNat_Int] at qt
          go_wp2
          go_still_tail 10, (by kernel_rfl)
          change wpList _ _ _ _ _ wr.drew
          go_wp2
          go_roundw
          case rel => exact ⟨k + 1, by omega, by go_num, S1.out, ⟨z, hz, S2.out⟩, S3.out.drew⟩
          case measure => simp [intOf] <;> omega
        · have hb1 := mul_bd d (v * 16) d0 d1 (by omega) (by omega)
          have hdr : dcR d v 6 = d * (v * 16) := rfl
          obtain ⟨t, ht⟩ : ∃ t, t = v * 16 := ⟨_, rfl⟩
          have z1x : IntKind.i64.wrap (v * 16) = t := by rw [← ht]; exact i64c _ (by omega) (by omega)
          have z2x : IntKind.i64.wrap (d * t) = r := by rw [Hr.out, hdr, ht]; exact i64c _ (by omega) (by omega)
          clear hb1 hdr ht
          have qt : qp.tdiv 6 = qp / 6 := Int.tdiv_eq_ediv_of_nonneg q0
          rw [ha] at qt
          have e0 : IntKind.i64.wrap 0 = 0 := by decide
          have e1 : IntKind.i64.wrap 1 = 1 := by decide
          have e2 : IntKind.i64.wrap 2 = 2 := by decide
          have e3 : IntKind.i64.wrap 3 = 3 := by decide
          have e4 : IntKind.i64.wrap 4 = 4 := by decide
          have e5 : IntKind.i64.wrap 5 = 5 := by decide
          have e6 : IntKind.i64.wrap 6 = 6 := by decide
          have e7 : IntKind.i64.wrap 7 = 7 := by decide
          have e8 : IntKind.i64.wrap 8 = 8 := by decide
          simp only [Int.cast_ofNat_Int] at qt
          go_wp2
          go_still_tail 10, (by kernel_rfl)
          change wpList _ _ _ _ _ wr.drew
          go_wp2
          go_roundw
          case rel => exact ⟨k + 1, by omega, by go_num, S1.out, ⟨z, hz, S2.out⟩, S3.out.drew⟩
          case measure => simp [intOf] <;> omega
        · have hb1 := mul_bd d (v * 32) d0 d1 (by omega) (by omega)
          have hdr : dcR d v 7 = d * (v * 32) := rfl
          obtain ⟨t, ht⟩ : ∃ t, t = v * 32 := ⟨_, rfl⟩
          have z1x : IntKind.i64.wrap (v * 32) = t := by rw [← ht]; exact i64c _ (by omega) (by omega)
          have z2x : IntKind.i64.wrap (d * t) = r := by rw [Hr.out, hdr, ht]; exact i64c _ (by omega) (by omega)
          clear hb1 hdr ht
          have qt : qp.tdiv 6 = qp / 6 := Int.tdiv_eq_ediv_of_nonneg q0
          rw [ha] at qt
          have e0 : IntKind.i64.wrap 0 = 0 := by decide
          have e1 : IntKind.i64.wrap 1 = 1 := by decide
          have e2 : IntKind.i64.wrap 2 = 2 := by decide
          have e3 : IntKind.i64.wrap 3 = 3 := by decide
          have e4 : IntKind.i64.wrap 4 = 4 := by decide
          have e5 : IntKind.i64.wrap 5 = 5 := by decide
          have e6 : IntKind.i64.wrap 6 = 6 := by decide
          have e7 : IntKind.i64.wrap 7 = 7 := by decide
          have e8 : IntKind.i64.wrap 8 = 8 := by decide
          simp only [Int.cast_ofNat_Int] at qt
          go_wp2
          go_still_tail 10, (by kernel_rfl)
          change wpList _ _ _ _ _ wr.drew
          go_wp2
          go_roundw
          case rel => exact ⟨k + 1, by omega, by go_num, S1.out, ⟨z, hz, S2.out⟩, S3.out.drew⟩
          case measure => simp [intOf] <;> omega
        · have hb1 := mul_bd d (v * 64) d0 d1 (by omega) (by omega)
          have hdr : dcR d v 8 = d * (v * 64) := rfl
          obtain ⟨t, ht⟩ : ∃ t, t = v * 64 := ⟨_, rfl⟩
          have z1x : IntKind.i64.wrap (v * 64) = t := by rw [← ht]; exact i64c _ (by omega) (by omega)
          have z2x : IntKind.i64.wrap (d * t) = r := by rw [Hr.out, hdr, ht]; exact i64c _ (by omega) (by omega)
          clear hb1 hdr ht
          have qt : qp.tdiv 6 = qp / 6 := Int.tdiv_eq_ediv_of_nonneg q0
          rw [ha] at qt
          have e0 : IntKind.i64.wrap 0 = 0 := by decide
          have e1 : IntKind.i64.wrap 1 = 1 := by decide
          have e2 : IntKind.i64.wrap 2 = 2 := by decide
          have e3 : IntKind.i64.wrap 3 = 3 := by decide
          have e4 : IntKind.i64.wrap 4 = 4 := by decide
          have e5 : IntKind.i64.wrap 5 = 5 := by decide
          have e6 : IntKind.i64.wrap 6 = 6 := by decide
          have e7 : IntKind.i64.wrap 7 = 7 := by decide
          have e8 : IntKind.i64.wrap 8 = 8 := by decide
          simp only [Int.cast_ofNat_Int] at qt
          go_wp2
          go_still_tail 10, (by kernel_rfl)
          change wpList _ _ _ _ _ wr.drew
          go_wp2
          go_roundw
          case rel => exact ⟨k + 1, by omega, by go_num, S1.out, ⟨z, hz, S2.out⟩, S3.out.drew⟩
          case measure => simp [intOf] <;> omega
    · obtain rfl : k = 16 := by omega
      have hfin : ints (shTo d r 16) = ints (List.replicate 16 r) := by simp [shTo]
      rw [hfin] at hb2
      obtain ⟨F, hF⟩ : ∃ F, F = ints (List.replicate 16 r) := ⟨_, rfl⟩
      have hfs : F.size = 16 := by rw [hF, ints_size, List.length_replicate]
      have hf1 : F.all (·.oneCell') = true := by rw [hF]; exact ints_one _
      rw [← hF] at hb2
      have S1 := Lib.hid hb2
      have S2 := Lib.hid hrz
      have S3 := Lib.hid ho
      have Hfs := Lib.hid hfs
      have Hf1 := Lib.hid hf1
      have HF := Lib.hid hF
      have Hz2 := Lib.hid hz
      clear hb2 hrz ho hfs hf1 hF hfin hz
      go_wp2_with (first
        | (with_reducible refine wpList_load_row rfl _ _ rfl _ rfl _ _ _ _ S1.out Tryz.underlying36 rfl (by rw [Hfs.out]; kernel_rfl) ?_)
        | (refine wpList_store_agg rfl _ _ _ rfl _ _ rfl rfl S2.out (by rw [Hfs.out]; kernel_rfl) (by rw [Hz2.out, Hfs.out]) Hf1.out ?_))
      intro w8 hw8 ho8
      have W8 := Lib.hid hw8
      have O8 := Lib.hid (S3.out.trans' ho8 (by simp))
      clear hw8 ho8
      go_wp2
      refine ret_cell_tmp rfl _ _ rfl rfl W8.out Tryz.underlying36 rfl (by rw [Hfs.out]; kernel_rfl) rfl ⟨r, by rw [HF.out]; rfl, R1.out, R2.out, R3.out, r4, r5, O8.out⟩
end Go.Proofs.YtcmehedjdfopdaaGreat

namespace Go.Proofs.YtcmehedjdfopdaaGreat
open Go.RowKit

/-- The sum of a list's first k numbers. -/
def sumTo (xs : List Int) : Nat → Int
  | 0 => 0
  | k + 1 => sumTo xs k + xs.getD k 0
theorem sumTo_range (xs : List Int) (n : Nat) (h : ∀ i, i < n → 0 ≤ xs.getD i 0 ∧ xs.getD i 0 ≤ 255) : ∀ k, k ≤ n → 0 ≤ sumTo xs k ∧ sumTo xs k ≤ 255 * (k : Int) := by
  intro k
  induction k with
  | zero => intro _; simp [sumTo]
  | succ k ih =>
    intro hk
    have h1 := ih (by omega)
    have h2 := h k (by omega)
    unfold sumTo
    omega

theorem intra_sum (v : Value) (xs : List Int) (w : World) (hv : IntSlice w v xs) (hl : xs.length ≤ 1000) (hx : ∀ i, i < xs.length → 0 ≤ xs.getD i 0 ∧ xs.getD i 0 ≤ 255) :
    Calls Tryz.prog 157 #[v] w fun e w' => e = .returned (.int .i64 (sumTo xs xs.length)) ∧ w = w' := by
  obtain ⟨ao, cap, rfl, ha⟩ := hv
  have hr := sumTo_range xs xs.length hx
  obtain ⟨n, hn⟩ : ∃ n, n = xs.length := ⟨_, rfl⟩
  rw [← hn] at hl hx hr ⊢
  have Ha := Lib.hid ha
  have Hx := Lib.hid hx
  have Hr := Lib.hid hr
  have Hn := Lib.hid hn
  clear ha hx hn hr
  go_enter Tryz.func157, Tryz.ntmps157
  go_wp2
  go_loop [3, 8] (fun s q => ∃ k : Nat, k ≤ n ∧ q = .int .i64 k ∧ s = .int .i64 (sumTo xs k)) (fun _ q => n - (intOf q).toNat)
  case atStart => exact ⟨0, Nat.zero_le _, rfl, rfl⟩
  case round =>
    obtain ⟨k, hk, rfl, rfl⟩ := hrel
    by_cases hlt : k < n
    · rcases Ha.out with h | ⟨g, off, rfl, hc⟩
      · have := Hn.out; rw [h] at this; simp at this; omega
      have c1 := hc k (by rw [← Hn.out]; exact hlt)
      obtain ⟨r0, r1⟩ := Hx.out k hlt
      obtain ⟨s0, s1⟩ := Hr.out k (by omega)
      have hs : sumTo xs (k + 1) = sumTo xs k + xs.getD k 0 := rfl
      obtain ⟨x, hx⟩ : ∃ x, x = xs.getD k 0 := ⟨_, rfl⟩
      obtain ⟨s, hsk⟩ : ∃ s, s = sumTo xs k := ⟨_, rfl⟩
      rw [← hx] at c1 r0 r1 hs
      rw [← hsk] at s0 s1 hs ⊢
      have Hs := Lib.hid hs
      clear hx hc hs hsk
      go_wp2
      go_round
      case rel => exact ⟨k + 1, by omega, by go_num, by rw [Hs.out]⟩
      case measure => simp [intOf] <;> omega
    · obtain rfl : k = n := by omega
      go_wp2
      go_ret
      exact ⟨rfl, rfl⟩
end Go.Proofs.YtcmehedjdfopdaaGreat
