/-
  The walk over bytes.Repeat for one byte. The walk over package recon's New. The walk over the law's awake.
-/
import Derived.Test.YtcmehedjdfopdaaGreatJ28
import Derived.Lib.MakeNoZero
import Derived.Deep.RegionLaw
namespace Go.Proofs.YtcmehedjdfopdaaGreat
open Go.RowKit

theorem mul_one (n : Nat) (hn : n = 64 ∨ n = 128 ∨ n = 256 ∨ n = 512 ∨ n = 1024) (w : World) :
    Calls Tryz.prog 65 #[.int .u64 1, .int .u64 n] w fun e w' => e = .returned (.tuple #[.int .u64 0, .int .u64 n]) ∧ w = w' := by
  rcases hn with rfl | rfl | rfl | rfl | rfl
  all_goals
    go_enter Tryz.func65, Tryz.ntmps65
    go_wp2
    go_ret2
    exact ⟨rfl, rfl⟩
theorem make_bytes (n : Nat) (hn : n ≤ 100000) (w : World) : ∃ cs : Array Value, (callFunc 66 #[.int .i64 n]).run Tryz.prog w = .ok (.value (.slice (some ⟨w.heap.size, 0, none⟩) n cs.size)) ((w.alloc (.cells cs 5)).drewN 2) ∧ n ≤ cs.size ∧ cs.size ≤ maxLen := by
  obtain ⟨cs, h1, h2, h3⟩ := Lib.run_makeNoZero (P := Tryz.prog) w #[3] 46 5 Tryz.underlying46 n (by omega)
  refine ⟨cs, ?_, h2, h3 (by unfold maxLen; omega)⟩
  rw [run_callFunc_extern Tryz.func66 (by kernel_rfl) (by kernel_rfl) (by kernel_rfl) (e := Extern.BytealgMakeNoZero.makeNoZero #[3] #[46]) (by kernel_rfl), h1]
  rfl

theorem rep_first (cs : Array Value) (c : Int) : (Value.int .u8 c :: cs.toList.tail).toArray = u8s (List.replicate 1 c) ++ (cs.toList.drop 1).toArray := by
  apply Array.ext'
  simp [u8s]
theorem rep_more (k m : Nat) (c : Int) (rest : Array Value) : ((u8s (List.replicate k c) ++ rest).toList.take k ++ (List.replicate m (Value.int .u8 c) ++ (u8s (List.replicate k c) ++ rest).toList.drop (k + (List.replicate m (Value.int .u8 c)).length))).toArray = u8s (List.replicate (k + m) c) ++ (rest.toList.drop m).toArray := by
  apply Array.ext'
  simp [u8s, List.drop_append]
  rw [← List.append_assoc, List.replicate_append_replicate]

set_option maxRecDepth 100000 in
set_option maxHeartbeats 600000 in
theorem bytes_repeat {w : World} {g : Nat} {c : Int} {T : TypeId} (hg : w.heap[g]? = some (.cells #[.int .u8 c] T (0, 0))) (n : Nat) (hn : n = 64 ∨ n = 128 ∨ n = 256 ∨ n = 512 ∨ n = 1024) :
    Calls Tryz.prog 41 #[.slice (some ⟨g, 0, none⟩) 1 1, .int .i64 n] w fun e w' => ∃ nb, e = .returned (.slice (some ⟨nb, 0, none⟩) n n) ∧ (∃ rest, w'.heap[nb]? = some (.cells (u8s (List.replicate n c) ++ rest) 5 (0, 0))) ∧ w.heap.size ≤ nb ∧ Only [] w w' := by
  have hmul := fun w => mul_one n hn w
  have hn2 : 64 ≤ n ∧ n ≤ 1024 := by omega
  obtain ⟨cs, hmk, h2, h3⟩ := make_bytes n (by omega) w
  have hwr : IntKind.u64.wrap (n : Int) = n := by rcases hn with rfl | rfl | rfl | rfl | rfl <;> decide
  have hw1 : IntKind.u64.wrap 1 = 1 := by decide
  have hgl := lt_of_block hg
  have c0 : w.cell? ⟨g, 0, none⟩ = some (.int .u8 c) := by rw [cells_of hg]; rfl
  have Hmul := Lib.hid hmul
  have H2 := Lib.hid h2
  have i1 : (n : Int) ≤ (cs.size : Int) := by omega
  clear hmul hg hn
  go_enter Tryz.func41, Tryz.ntmps41
  go_wp2_with fail
  refine (Hmul.out _).mono ?_
  rintro e w' ⟨rfl, rfl⟩
  have hcp : ∀ j v, ([Value.int .u8 c] : List Value)[j]? = some v → ((w.alloc (.cells cs 5)).drewN 2).cell? ((⟨g, 0, none⟩ : Addr).add j) = some v := by
    intro j v hj
    match j, hj with
    | 0, hj =>
      simp at hj
      subst hj
      rw [Addr.add_lit]
      exact cell_alloc (o := .cells cs 5) c0
  have hone : ∀ v ∈ ([Value.int .u8 c] : List Value), v.oneCell' = true := by
    intro v hv
    simp at hv
    subst hv
    rfl
  have Hcp := Lib.hid hcp
  have Hone := Lib.hid hone
  have hmn : Nat.min 1 n = 1 := Nat.min_eq_left (by omega)
  clear hcp hone
  go_wp2_with (refine wpList_copy_block rfl _ _ _ _ rfl 5 Tryz.underlying46 (by kernel_rfl) w.heap.size _ _ _ ⟨g, 0, none⟩ 1 1 rfl rfl cs _ (show ((w.alloc (.cells cs 5)).drewN 2).heap[w.heap.size]? = _ from heap_alloc_at w _) [.int .u8 c] (by exact hmn.symm) Hcp.out (by simp; omega) Hone.out ?_)
  intro w2 hw2 ho2
  have W2 : Hid (w2.heap[w.heap.size]? = some (.cells (u8s (List.replicate 1 c) ++ (cs.toList.drop 1).toArray) 5 (0, 0))) := Lib.hid (by rw [hw2, rep_first])
  have O2 : Hid (Only [] w w2) := Lib.hid ((((Only.refl [] w).alloc (.cells cs 5)).drewN 2).trans' ho2 (fun i hi => .inr (by simp only [List.mem_singleton] at hi; omega)))
  have hsz : 1 + ((cs.toList.drop 1).toArray).size = cs.size := by simp; omega
  have Hsz := Lib.hid hsz
  clear hw2 ho2 hsz hmk Hcp
  go_wp2
  go_loopw [10] (fun q wr => ∃ k : Nat, 1 ≤ k ∧ k ≤ n ∧ q = .int .i64 k ∧ (∃ rest : Array Value, k + rest.size = cs.size ∧ wr.heap[w.heap.size]? = some (.cells (u8s (List.replicate k c) ++ rest) 5 (0, 0))) ∧ Only [] w wr) (fun q _ => n - (intOf q).toNat)
  case atStart => exact ⟨1, by omega, by omega, rfl, ⟨_, Hsz.out, W2.out⟩, O2.out⟩
  case round =>
    obtain ⟨k, hk1, hk, rfl, ⟨rest, hrs, hb⟩, ho⟩ := hrel
    by_cases hlt : k < n
    · obtain ⟨m, hm⟩ : ∃ m, m = Nat.min k (n - k) := ⟨_, rfl⟩
      have hm1 : 1 ≤ m ∧ m ≤ k ∧ m ≤ n - k := by rw [hm]; exact ⟨by simp only [Nat.min_def]; split <;> omega, Nat.min_le_left _ _, Nat.min_le_right _ _⟩
      have hmin : min (k : Int) (n : Int) = k := by omega
      have hnk : n ≠ k := by omega
      have qkm : IntKind.i64.wrap ((k : Int) + (m : Int)) = ((k + m : Nat) : Int) := by rw [← Int.natCast_add]; exact i64n _ (by omega)
      have hnk2 : (n = k) = False := by simp [hnk]
      have hsrc : ∀ j v, (List.replicate m (Value.int .u8 c))[j]? = some v → wr.cell? ((⟨w.heap.size, 0, none⟩ : Addr).add j) = some v := by
        intro j v hj
        rw [List.getElem?_replicate] at hj
        split at hj
        · rename_i hjm
          rw [Addr.add_lit, Nat.zero_add, cells_of hb, Array.getElem?_append_left (by rw [u8s_size, List.length_replicate]; omega), u8s_at _ _ (by rw [List.length_replicate]; omega), getD_rep _ _ _ (by omega)]
          exact hj
        · cases hj
      have hone2 : ∀ v ∈ List.replicate m (Value.int .u8 c), v.oneCell' = true := fun v hv => by rw [List.eq_of_mem_replicate hv]; rfl
      have Hsrc := Lib.hid hsrc
      have Hone2 := Lib.hid hone2
      have Hb := Lib.hid hb
      have Ho := Lib.hid ho
      have Hrs := Lib.hid hrs
      have Hm := Lib.hid hm
      clear hsrc hone2 hb ho hrs hm
      go_wp2
      go_region_held3 (fun w' => True) (trivial)
        ((refine step_copy_block rfl _ _ _ _ rfl 5 Tryz.underlying46 (by kernel_rfl) w.heap.size k (n - k) (n - k) ⟨w.heap.size, 0, none⟩ k n rfl rfl (u8s (List.replicate k c) ++ rest) _ (show wr.drew.heap[w.heap.size]? = _ from Hb.out) (List.replicate m (Value.int .u8 c)) (by rw [List.length_replicate]; exact Hm.out) Hsrc.out (by rw [List.length_replicate, Array.size_append, u8s_size, List.length_replicate]; have := Hrs.out; omega) Hone2.out ?_
          intro w4 hw4 ho4))
      have B4 : Hid (w4.heap[w.heap.size]? = some (.cells (u8s (List.replicate (k + m) c) ++ (rest.toList.drop m).toArray) 5 (0, 0))) := Lib.hid (by rw [← rep_more]; exact hw4)
      have O4 := Lib.hid ((Ho.out.drew).trans' ho4 (fun i hi => .inr (by simp only [List.mem_singleton] at hi; omega)))
      have hrest : k + m + (rest.toList.drop m).toArray.size = cs.size := by have := Hrs.out; simp; omega
      have Hrest := Lib.hid hrest
      clear hw4 ho4 hrest
      go_wp2
      go_roundw
      case rel => exact ⟨k + m, by omega, by omega, by go_num, ⟨_, Hrest.out, B4.out⟩, O4.out⟩
      case measure => simp [intOf] <;> omega
    · obtain rfl : k = n := by omega
      have Hb := Lib.hid hb
      have Ho := Lib.hid ho
      clear hb ho
      go_wp2
      go_ret
      exact ⟨_, rfl, ⟨_, Hb.out⟩, Nat.le_refl _, Ho.out⟩
end Go.Proofs.YtcmehedjdfopdaaGreat

namespace Go.Proofs.YtcmehedjdfopdaaGreat
open Go.RowKit

set_option maxRecDepth 100000 in
set_option maxHeartbeats 800000 in
theorem new_plane (n : Nat) (hn : n = 64 ∨ n = 128 ∨ n = 256 ∨ n = 512 ∨ n = 1024) (w : World) :
    Calls Tryz.prog 40 #[.int .i64 n] w fun e w' => ∃ nb, e = .returned (.slice (some ⟨nb, 0, none⟩) n n) ∧ (∃ rest, w'.heap[nb]? = some (.cells (u8s (List.replicate n 128) ++ rest) 5 (0, 0))) ∧ w.heap.size ≤ nb ∧ Only [] w w' := by
  have hr := bytes_repeat (heap_alloc_at w (.cells #[.int .u8 128] 5)) n hn
  have Hr := Lib.hid hr
  clear hr hn
  go_enter Tryz.func40, Tryz.ntmps40
  go_wp2_with fail
  refine Hr.out.mono ?_
  rintro e w1 ⟨nb, rfl, h1, h2, h3⟩
  have H1 := Lib.hid h1
  have H2 : Hid (w.heap.size ≤ nb) := Lib.hid (by simp at h2; omega)
  have H3 : Hid (Only [] w w1) := Lib.hid (((Only.refl [] w).alloc _).trans h3)
  clear h1 h2 h3
  go_wp2
  go_ret
  exact ⟨_, rfl, H1.out, H2.out, H3.out⟩

theorem recon_new0 (w : World) : Calls Tryz.prog 24 #[.int .i64 0, .int .i64 1] w fun e w' => e = .returned (.tuple #[.pointer none, .int .i64 2200]) ∧ w = w' := by
  go_enter Tryz.func24, Tryz.ntmps24
  go_wp2
  go_ret2
  exact ⟨rfl, rfl⟩

set_option maxRecDepth 100000 in
set_option maxHeartbeats 800000 in
theorem recon_new (wide high : Nat) (hw : wide = 1 ∨ wide = 2) (hh : high = 1 ∨ high = 2) (w : World) :
    Calls Tryz.prog 24 #[.int .i64 wide, .int .i64 high] w fun e w' => ∃ cb yb ub vb, e = .returned (.tuple #[.pointer (some ⟨cb, 0, none⟩), .int .i64 0]) ∧ CanAt w' cb yb ub vb (256 * (wide * high)) (64 * (wide * high)) (64 * (wide * high)) wide high (List.replicate (256 * (wide * high)) 128) (List.replicate (64 * (wide * high)) 128) (List.replicate (64 * (wide * high)) 128) (.slice none 0 0) (.pointer none) 0 ∧ w.heap.size ≤ cb ∧ w.heap.size ≤ yb ∧ w.heap.size ≤ ub ∧ w.heap.size ≤ vb ∧ Only [] w w' := by
  obtain ⟨A, hA, hA2⟩ : ∃ A, A = wide * high ∧ (A = 1 ∨ A = 2 ∨ A = 4) := ⟨_, rfl, by rcases hw with rfl | rfl <;> rcases hh with rfl | rfl <;> simp⟩
  have hmul : (wide : Int) * (high : Int) = (A : Int) := by rw [hA]; exact (Int.natCast_mul wide high).symm
  rw [← hA]
  have hy := fun w => new_plane (256 * A) (by omega) w
  have hu := fun w => new_plane (64 * A) (by omega) w
  obtain ⟨N, hN⟩ : ∃ N, N = 256 * A := ⟨_, rfl⟩
  obtain ⟨M, hM⟩ : ∃ M, M = 64 * A := ⟨_, rfl⟩
  rw [← hN] at hy ⊢
  rw [← hM] at hu ⊢
  have hwi : 1 ≤ (wide : Int) ∧ (wide : Int) ≤ 2 := by omega
  have hhi : 1 ≤ (high : Int) ∧ (high : Int) ≤ 2 := by omega
  have q1 : IntKind.i64.wrap ((wide : Int) * high) = (A : Int) := by rw [hmul]; exact i64n _ (by omega)
  have q4 : ((N : Int)) / 4 = (M : Int) := by omega
  have q5 : (A : Int) * 16 * 16 = (N : Int) := by omega
  have HY := Lib.hid hy
  have HU := Lib.hid hu
  have HN := Lib.hid hN
  have HM := Lib.hid hM
  have HA := Lib.hid hA
  clear hy hu hw hh hN hM hA
  go_enter Tryz.func24, Tryz.ntmps24
  go_wp2_with fail
  refine (HY.out _).mono ?_
  rintro e w1 ⟨yb, rfl, y1, y2, y3⟩
  have Y1 := Lib.hid y1
  have Y3 := Lib.hid y3
  clear y1 y3
  go_wp2_with fail
  refine (HU.out _).mono ?_
  rintro e w2 ⟨ub, rfl, u1, u2, u3⟩
  have U1 := Lib.hid u1
  have U3 := Lib.hid u3
  clear u1 u3
  go_wp2_with fail
  refine (HU.out _).mono ?_
  rintro e w3 ⟨vb, rfl, v1, v2, v3⟩
  obtain ⟨ry, hy1⟩ := Y1.out
  obtain ⟨ru, hu1⟩ := U1.out
  obtain ⟨rv, hv1⟩ := v1
  have hy3 := v3.heap (U3.out.heap hy1 (by simp)) (by simp)
  have hu3 := v3.heap hu1 (by simp)
  have l1 := lt_of_block hy1
  have l2 := lt_of_block hu1
  have l3 := lt_of_block hv1
  have s1 := Y3.out.size
  have s2 := U3.out.size
  have s3 := v3.size
  have O3 := Lib.hid ((Y3.out.trans U3.out).trans v3)
  have B1 := Lib.hid hy3
  have B2 := Lib.hid hu3
  have B3 := Lib.hid hv1
  clear hy1 hu1 hv1 hy3 hu3 v3 Y1 U1 Y3 U3 HY HU
  go_wp2
  go_ret2
  have hN := HN.out
  have hM := HM.out
  have hcan : CanAt (w3.alloc (.cells #[.int .i64 wide, .int .i64 high, .int .i64 ((wide : Int) * 16), .int .i64 ((high : Int) * 16), .slice (some ⟨yb, 0, none⟩) N N, .slice (some ⟨ub, 0, none⟩) M M, .slice (some ⟨vb, 0, none⟩) M M, .slice none 0 0, .pointer none, .int .i64 0] 85)) w3.heap.size yb ub vb N M M wide high (List.replicate N 128) (List.replicate M 128) (List.replicate M 128) (.slice none 0 0) (.pointer none) 0 := by
    refine ⟨?_, ⟨ry, heap_alloc_lt _ B1.out⟩, ⟨ru, heap_alloc_lt _ B2.out⟩, ⟨rv, heap_alloc_lt _ B3.out⟩, okPl_replicate _ _ (by omega) (by omega), okPl_replicate _ _ (by omega) (by omega), okPl_replicate _ _ (by omega) (by omega), by omega, by omega, by omega⟩
    rw [heap_alloc_at, List.length_replicate, List.length_replicate, show ((16 * wide : Nat) : Int) = (wide : Int) * 16 by omega, show ((16 * high : Nat) : Int) = (high : Int) * 16 by omega]
  exact ⟨_, _, _, _, rfl, hcan, by omega, y2, by omega, by omega, O3.out.alloc _⟩
end Go.Proofs.YtcmehedjdfopdaaGreat

namespace Go.Proofs.YtcmehedjdfopdaaGreat
open Go.RowKit

theorem u8_at {w : World} {B k g n cap : Nat} {e : TypeId} {xs : List Int} (h : w.ownsRow B e 1 (.slice (some ⟨g, 0, none⟩) n cap) k (xs.map (Value.int .u8))) (hk : k = xs.length) (i : Nat) (hi : i < xs.length) : w.cell? ⟨g, i, none⟩ = some (.int .u8 (xs.getD i 0)) := by
  subst hk
  rcases h.2 with ⟨hv, _⟩ | ⟨g', cap', cur, hv, _⟩
  · cases hv
  · injection hv with h1 h2 h3
    injection h1 with h1
    injection h1 with h1
    subst h1 h2 h3
    rw [h.cellAt i (by omega)]
    simp [List.getElem?_eq_getElem hi, List.getD]
set_option maxRecDepth 100000 in
set_option maxHeartbeats 3200000 in
theorem awake22 (w : World) : Calls Tryz.prog 10 #[] w fun e w' => e = .returned (.bool true) ∧ Only [] w w' := by
  go_enter Tryz.func10, Tryz.ntmps10
  go_wp2_with fail
  refine (recon_new 1 1 (.inl rfl) (.inl rfl) w).mono ?_
  rintro e w1 ⟨cb, yb, ub, vb, rfl, hc, h1, h2, h3, h4, ho⟩
  have C1 := Lib.hid hc
  have O1 := Lib.hid ho
  clear hc ho
  have OP := Lib.hid (O1.out.alloc (.cells #[.bool false, .bool false, .int .i64 0, .int .i64 0, .int .i64 0, .bool false, .bool true, .int .i64 1, .int .i64 1] 32))
  have C2 : Hid (CanAt (w1.alloc (.cells #[.bool false, .bool false, .int .i64 0, .int .i64 0, .int .i64 0, .bool false, .bool true, .int .i64 1, .int .i64 1] 32)) cb yb ub vb 256 64 64 1 1 (List.replicate 256 128) (List.replicate 64 128) (List.replicate 64 128) (.slice none 0 0) (.pointer none) 0) := Lib.hid (C1.out.only ((Only.refl [] w1).alloc (.cells #[.bool false, .bool false, .int .i64 0, .int .i64 0, .int .i64 0, .bool false, .bool true, .int .i64 1, .int .i64 1] 32)) (by simp) (by simp) (by simp) (by simp))
  clear C1 O1
  go_wp2_with fail
  generalize w1.alloc (.cells #[.bool false, .bool false, .int .i64 0, .int .i64 0, .int .i64 0, .bool false, .bool true, .int .i64 1, .int .i64 1] 32) = w2 at *
  refine (slice_I (n := 0) C2.out (by omega) (by omega) (by omega) 1 (by omega) (by omega) 30 (by omega) (by omega) true 0 (by omega) (by omega)).mono ?_
  rintro e w3 ⟨sb, rfl, hsb, hs, hc3, o3⟩
  rw [sliceCells 0 1 30 true 0] at hs
  have O3 := Lib.hid (OP.out.trans' o3 (fun i hi => .inr (by simp only [List.mem_singleton] at hi; omega)))
  have S3 := Lib.hid hs
  have C3 := Lib.hid hc3
  have hz2 := OP.out.size
  clear hs hc3 o3 OP C2
  have hset := mbSet16 2 30
  have A4 := Lib.hid (heap_alloc_at w3 (.cells Tryz.zeroCells48 48))
  have O4 := Lib.hid (O3.out.alloc (.cells Tryz.zeroCells48 48))
  have P4 := Lib.hid ((Only.refl [] w3).alloc (.cells Tryz.zeroCells48 48))
  have HMS := Lib.hid (mbSize 1 2 0 30 0 z16 z28 (.slice none 0 0) z16_len z28_len)
  have HM1 := Lib.hid (mbL_one 1 2 0 30 0 z16 z28 (.slice none 0 0) z16_len z28_len z16_one z28_one rfl)
  go_wp2_with (refine wpList_store_agg rfl _ _ _ rfl w3.heap.size (mbL 1 2 0 30 0 z16 z28 (.slice none 0 0)).toArray rfl rfl A4.out HMS.out (by rw [mbZeroSize, List.size_toArray, mbL_length z16_len z28_len]) HM1.out ?_)
  intro w5 hw5 ho5
  have W5 := Lib.hid hw5
  have O5 := Lib.hid (O4.out.trans' ho5 (fun i hi => .inr (by simp only [List.mem_singleton] at hi; have := O3.out.size; omega)))
  have P5 : Hid (Only [] w3 w5) := Lib.hid (P4.out.trans' ho5 (fun i hi => .inr (by simp only [List.mem_singleton] at hi; omega)))
  clear hw5 ho5 hset O4 P4 A4 HMS HM1
  have c434 : w5.cell? ⟨w3.heap.size, 434, none⟩ = some (.int .i64 0) := by rw [cells_of W5.out, List.getElem?_toArray]; exact mbL_dc z16_len z28_len 0
  have z434 := free_of W5.out 434
  have W6 : Hid ((w5.setCell ⟨w3.heap.size, 434, none⟩ (.int .i64 4)).heap[w3.heap.size]? = some (.cells (mbL 1 2 0 30 4 z16 z28 (.slice none 0 0)).toArray 48 (0, 0))) := Lib.hid (by have := heap_set_same (i := 434) (.int .i64 4) W5.out; rw [mbL_setD _ _ _ _ _ _ _ _ _ z16_len z28_len] at this; exact this)
  have O6 : Hid (Only [] w (w5.setCell ⟨w3.heap.size, 434, none⟩ (.int .i64 4))) := Lib.hid (O5.out.setCell (.inr (by have := O3.out.size; simp only; omega)) _)
  have P6 : Hid (Only [] w3 (w5.setCell ⟨w3.heap.size, 434, none⟩ (.int .i64 4))) := Lib.hid (P5.out.setCell (.inr (by simp)) _)
  have HMS := Lib.hid (mbSize 1 2 0 30 4 z16 z28 (.slice none 0 0) z16_len z28_len)
  go_wp2_with (with_reducible refine wpList_load_row rfl _ _ rfl _ rfl _ _ _ _ W6.out Tryz.underlying48 rfl HMS.out ?_)
  clear c434 z434 O5 P5 W5
  generalize w5.setCell ⟨w3.heap.size, 434, none⟩ (.int .i64 4) = w6 at *
  have hz3 := O3.out.size
  have hz6 := P6.out.size
  have hm6 := lt_of_block W6.out
  have hsz6 := O6.out.size
  refine (mb_first (w := w6) (B := w.heap.size) (d := 4) (qp := 30) (C3.out.only P6.out (by simp) (by simp) (by simp) (by simp)) (P6.out.heap S3.out (by simp)) h1 (by omega) (by omega) (by omega) (by omega)).mono ?_
  rintro e w7 ⟨rfl, p0, p1, p2, p3, ao, c7, Y', hG, hc7, -, -, -, o7⟩
  have o7' : Only [yb, ub, vb, sb, cb] w6 w7 := by simpa [Value.ownBlock] using o7
  have hcb3 := lt_of_block C3.out.st
  have hyb3 := lt_of_block C3.out.ys.choose_spec
  have hub3 := lt_of_block C3.out.us.choose_spec
  have hvb3 := lt_of_block C3.out.vs.choose_spec
  have hsb3 := lt_of_block S3.out
  have O7 := Lib.hid (O6.out.trans' o7' (fun i hi => .inr (by simp only [List.mem_cons, List.not_mem_nil, or_false] at hi; omega)))
  have W7 := Lib.hid (o7'.heap W6.out (by simp only [List.mem_cons, List.not_mem_nil, or_false]; omega))
  have HG := Lib.hid hG
  have C7 := Lib.hid hc7
  clear o7 o7' hG hc7 W6 O6 P6 C3 S3 O3
  go_wp2_with fail
  refine (canvas_raw C7.out (HG.out.len) (by rw [List.length_replicate]) (by rw [List.length_replicate]) (by omega) (by omega) (by omega) (by omega) (by omega) (by omega)).mono ?_
  rintro e w8 ⟨f, rfl, ⟨g1, q1, g2, q2, g3, q3, rfl, f1, f2, f3⟩, o8⟩
  obtain ⟨r, r1, -, r3, hYr⟩ := HG.out
  have hv : (128 : Int) < clip8 (128 + (r + 32) / 64) ∧ clip8 (128 + (r + 32) / 64) ≤ 255 := by
    have := r3 (by omega) (by omega)
    unfold clip8
    omega
  obtain ⟨v, hvv⟩ : ∃ v, v = clip8 (128 + (r + 32) / 64) := ⟨_, rfl⟩
  rw [← hvv] at hv hYr
  obtain ⟨v0, v1⟩ := hv
  have y0 : w8.cell? ⟨g1, 0, none⟩ = some (.int .u8 v) := by
    have := u8_at f1 (by rw [HG.out.len]) 0 (by rw [HG.out.len]; omega)
    rw [hYr, rep_at _ _ 0 (by omega)] at this
    exact this
  have u0 : w8.cell? ⟨g2, 0, none⟩ = some (.int .u8 128) := by
    have := u8_at f2 (by rw [List.length_replicate]) 0 (by rw [List.length_replicate]; omega)
    rw [rep_at _ _ 0 (by omega)] at this
    exact this
  have y1 := cell_alloc (o := (.cells #[.int .i64 16, .int .i64 16, .slice (some ⟨g1, 0, none⟩) 256 q1, .slice (some ⟨g2, 0, none⟩) 64 q2, .slice (some ⟨g3, 0, none⟩) 64 q3] 54)) y0
  have u1 := cell_alloc (o := (.cells #[.int .i64 16, .int .i64 16, .slice (some ⟨g1, 0, none⟩) 256 q1, .slice (some ⟨g2, 0, none⟩) 64 q2, .slice (some ⟨g3, 0, none⟩) 64 q3] 54)) u0
  have OB := o8.alloc (.cells #[.int .i64 16, .int .i64 16, .slice (some ⟨g1, 0, none⟩) 256 q1, .slice (some ⟨g2, 0, none⟩) 64 q2, .slice (some ⟨g3, 0, none⟩) 64 q3] 54)
  have O8 := Lib.hid (O7.out.trans OB)
  have W8 := Lib.hid (OB.heap W7.out (by simp))
  have C8 := Lib.hid (C7.out.only OB (by simp) (by simp) (by simp) (by simp))
  have B8 := Lib.hid (heap_alloc_at w8 (.cells #[.int .i64 16, .int .i64 16, .slice (some ⟨g1, 0, none⟩) 256 q1, .slice (some ⟨g2, 0, none⟩) 64 q2, .slice (some ⟨g3, 0, none⟩) 64 q3] 54))
  have hm8 := lt_of_block B8.out
  clear f1 f2 f3 o8 W7 C7 O7 OB y0 u0 hYr hvv r1 r3 HG
  go_wp2_with (with_reducible refine wpList_load_row rfl _ _ rfl _ rfl _ _ _ _ W8.out Tryz.underlying48 rfl HMS.out ?_)
  generalize w8.alloc (.cells #[.int .i64 16, .int .i64 16, .slice (some ⟨g1, 0, none⟩) 256 q1, .slice (some ⟨g2, 0, none⟩) 64 q2, .slice (some ⟨g3, 0, none⟩) 64 q3] 54) = w9 at *
  generalize w8.heap.size = fb at *
  refine (mb_full C8.out (by omega) _).mono ?_
  rintro e w10 ⟨rfl, o10⟩
  have O10 := Lib.hid (O8.out.trans o10)
  have C10 := Lib.hid (C8.out.only o10 (by simp) (by simp) (by simp) (by simp))
  have B10 := Lib.hid (o10.heap B8.out (by simp))
  have y2 := o10.cell y1 (by simp)
  have u2 := o10.cell u1 (by simp)
  clear o10 C8 B8 W8 O8 y1 u1
  go_wp2_with fail
  refine (recon_new0 _).mono ?_
  rintro e w11 ⟨rfl, rfl⟩
  have b2 : w10.cell? ⟨fb, 2, none⟩ = some (.slice (some ⟨g1, 0, none⟩) 256 q1) := by rw [cells_of B10.out]; rfl
  have b3 : w10.cell? ⟨fb, 3, none⟩ = some (.slice (some ⟨g2, 0, none⟩) 64 q2) := by rw [cells_of B10.out]; rfl
  have hdone := canvas_done C10.out
  have HD : Hid (Calls Tryz.prog 15 #[.pointer (some ⟨cb, 0, none⟩)] w10 fun e w' => e = .returned (.int .i64 1) ∧ w10 = w') := Lib.hid hdone
  clear hdone
  go_wp2_with (first
    | (go_at_call 14; refine (num_any _ _).mono ?_; rintro e w' ⟨rfl, rfl⟩)
    | (go_at_call 15; refine HD.out.mono ?_; rintro e w' ⟨rfl, rfl⟩))
  go_ret
  exact ⟨rfl, O10.out⟩
end Go.Proofs.YtcmehedjdfopdaaGreat
