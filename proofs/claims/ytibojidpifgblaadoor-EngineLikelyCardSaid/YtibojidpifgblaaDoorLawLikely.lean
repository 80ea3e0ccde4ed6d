/-
  EngineLikely: likely bins take far fewer bits than there are; unlikely ones more.
-/
import Derived.Test.YtibojidpifgblaaDoorLaw5Awake
import Derived.Test.YtibojidpifgblaaDoorLikely
namespace Go.Proofs.YtibojidpifgblaaDoor
open Go.RowKit

/-- A second encoder beside one that is called. -/
theorem EncAt.beside {w0 w w' : World} {b1 t1 s1 b2 t2 s2 : Nat} {o1 o1' o2 : Value} {e1 e2 : Enc} (h1 : EncAt w0 w b1 t1 s1 o1 e1) (h2 : EncAt w0 w b2 t2 s2 o2 e2) (hb : b1 ≠ b2) (hs : s1 ≠ s2)
    (ho : ∀ g, o1.ownBlock = some g → o2.ownBlock ≠ some g) (hg : EncGo w w' b1 s1 o1 o1') : EncAt w0 w' b2 t2 s2 o2 e2 ∧ (∀ g, o1'.ownBlock = some g → o2.ownBlock ≠ some g) := by
  have hO1 : ∀ g, o1.ownBlock = some g → ∃ cur, w.heap[g]? = some (.cells cur 5 (0, 0)) := fun g hg => ownsRow_block h1.is.out hg
  have hO2 : ∀ g, o2.ownBlock = some g → ∃ cur, w.heap[g]? = some (.cells cur 5 (0, 0)) := fun g hg => ownsRow_block h2.is.out hg
  have key : ∀ k, k ∈ b1 :: s1 :: o1.ownBlock.toList → w0.heap.size ≤ k ∧ k ≠ b2 ∧ k ≠ t2 ∧ k ≠ s2 ∧ o2.ownBlock ≠ some k := by
    intro k hk
    simp only [List.mem_cons, Option.mem_toList] at hk
    rcases hk with rfl | rfl | hk
    · exact ⟨h1.hb, hb, block_type h1.is.cells h2.is.tab (by decide), block_type h1.is.cells h2.is.sts (by decide), fun h => by obtain ⟨c, hc⟩ := hO2 _ h; exact block_type h1.is.cells hc (by decide) rfl⟩
    · exact ⟨h1.hsb, block_type h1.is.sts h2.is.cells (by decide), block_type h1.is.sts h2.is.tab (by decide), hs, fun h => by obtain ⟨c, hc⟩ := hO2 _ h; exact block_type h1.is.sts hc (by decide) rfl⟩
    · obtain ⟨c, hc⟩ := hO1 _ hk
      exact ⟨h1.hov k hk, block_type hc h2.is.cells (by decide), block_type hc h2.is.tab (by decide), block_type hc h2.is.sts (by decide), ho k hk⟩
  refine ⟨h2.only hg.only (fun i hi => (key i hi).1) (fun h => (key _ h).2.1 rfl) (fun h => (key _ h).2.2.1 rfl) (fun h => (key _ h).2.2.2.1 rfl) (fun g hg2 h => (key g h).2.2.2.2 hg2), ?_⟩
  intro g hg2 h
  rcases hg.new g hg2 with k | k
  · exact ho g k h
  · obtain ⟨c, hc⟩ := hO2 g h
    have := lt_of_block hc
    omega
theorem likA_cost (k : Nat) : (likA k).cost ≤ 8 * k := by
  induction k with
  | zero => decide
  | succ k ih => have := ((likA k).good_bin 0 0 (likA_live k).1.good).2; show ((likA k).bin 0 0).cost ≤ _; omega
theorem likB_cost (k : Nat) : (likB k).cost ≤ 8 * k := by
  induction k with
  | zero => decide
  | succ k ih => have := ((likB k).good_bin 0 ((k % 2 : Nat) : Int) (likB_live k).1.good).2; show ((likB k).bin 0 ((k % 2 : Nat) : Int)).cost ≤ _; omega

set_option maxRecDepth 100000 in
set_option maxHeartbeats 1600000 in
theorem law_likely (many : Int) (w : World) (ha : Asc w) : Calls Tryd.prog 4 #[.int .i64 many] w fun e w' => e = .returned (.bool true) ∧ Only [] w w' := by
  have Ha := Lib.hid ha
  obtain ⟨m, hm⟩ : ∃ m : Nat, many % 256 = (m : Int) ∧ m < 256 := ⟨(many % 256).toNat, by omega, by omega⟩
  obtain ⟨hm, hm2⟩ := hm
  go_enter Tryd.func4, Tryd.ntmps4
  go_wp2_with fail
  refine (awake5 w ha).mono ?_
  rintro r w1 ⟨rfl, h1⟩
  have H1 := Lib.hid h1
  clear h1
  go_wp2_with fail
  have ho1 : Only [] w (w1.alloc (.cells #[.int .i64 124] 3)) := H1.out.alloc _
  have hv1 : IntSlice (w1.alloc (.cells #[.int .i64 124] 3)) (.slice (some ⟨w1.heap.size, 0, none⟩) 1 1) [124] := IntSlice.of_block (e := 3) (xs := [124]) (heap_alloc_at _ _)
  refine (enc_new ha ho1 _ [124] hv1 (by decide)).mono ?_
  rintro r w2 ⟨b1, t1, s1, rfl, h2, -, -, -, -⟩
  have H2 : Hid (EncAt w w2 b1 t1 s1 (.slice none 0 0) (likA 0)) := Lib.hid h2
  clear h2 ho1 hv1
  go_wp2_with fail
  have ho1 : Only [] w (w2.alloc (.cells #[.int .i64 0] 3)) := H2.out.on.alloc _
  have ho2 : Only [] w2 (w2.alloc (.cells #[.int .i64 0] 3)) := (Only.refl _ _).alloc _
  have hv1 : IntSlice (w2.alloc (.cells #[.int .i64 0] 3)) (.slice (some ⟨w2.heap.size, 0, none⟩) 1 1) [0] := IntSlice.of_block (e := 3) (xs := [0]) (heap_alloc_at _ _)
  refine (enc_new ha ho1 _ [0] hv1 (by decide)).mono ?_
  rintro r w3 ⟨b2, t2, s2, rfl, h3, h4, h5, h6, h7⟩
  have hn1 : b1 ≠ b2 := by have := lt_of_block H2.out.is.cells; simp at h5; omega
  have hn2 : s1 ≠ s2 := by have := lt_of_block H2.out.is.sts; simp at h7; omega
  have H3 : Hid (EncAt w w3 b1 t1 s1 (.slice none 0 0) (likA 0)) := Lib.hid (H2.out.only (ho2.trans h4) (by simp) (by simp) (by simp) (by simp) (by simp))
  have H4 : Hid (EncAt w w3 b2 t2 s2 (.slice none 0 0) (likB 0)) := Lib.hid h3
  clear h3 h4 h5 h6 h7 ho1 ho2 hv1
  go_wp2
  go_loopw [6] (fun i wr => ∃ (j : Nat) (o1 o2 : Value), j ≤ 200 + m ∧ i = .int .i64 j ∧ EncAt w wr b1 t1 s1 o1 (likA j) ∧ EncAt w wr b2 t2 s2 o2 (likB j) ∧ (∀ g, o1.ownBlock = some g → o2.ownBlock ≠ some g)) (fun i _ => 200 + m - (intOf i).toNat)
  case atStart => exact ⟨0, _, _, Nat.zero_le _, rfl, H3.out, H4.out, fun g hg => by simp [Value.ownBlock] at hg⟩
  case round =>
    obtain ⟨j, o1, o2, hj, rfl, k1, k2, k3⟩ := hrel
    by_cases hlt : j < 200 + m
    · have K1 := Lib.hid k1
      have K2 := Lib.hid k2
      have K3 := Lib.hid k3
      clear k1 k2 k3
      go_wp2_with fail
      refine (K1.out.bin 0 0 (by have := likA_cost j; omega)).mono ?_
      rintro r w4 ⟨rfl, o1', g1, g2⟩
      obtain ⟨g3, g4⟩ := K1.out.beside K2.out hn1 hn2 K3.out g2
      have G1 : Hid (EncAt w w4 b1 t1 s1 o1' (likA (j + 1))) := Lib.hid g1
      have G2 := Lib.hid g3
      have G3 := Lib.hid g4
      clear g1 g2 g3 g4
      go_wp2_with fail
      rw [show (j : Int) % 2 = ((j % 2 : Nat) : Int) by omega]
      refine (G2.out.bin 0 ((j % 2 : Nat) : Int) (by have := likB_cost j; omega)).mono ?_
      rintro r w5 ⟨rfl, o2', g1, g2⟩
      obtain ⟨g3, g4⟩ := G2.out.beside G1.out hn1.symm hn2.symm (fun g h1 h2 => G3.out g h2 h1) g2
      have G4 : Hid (EncAt w w5 b2 t2 s2 o2' (likB (j + 1))) := Lib.hid g1
      have G5 := Lib.hid g3
      have G6 : Hid (∀ g, o1'.ownBlock = some g → o2'.ownBlock ≠ some g) := Lib.hid (fun g h1 h2 => g4 g h2 h1)
      clear g1 g2 g3 g4
      go_wp2
      go_roundw
      case rel => exact ⟨j + 1, o1', o2', by omega, by go_num, G5.out, G4.out, G6.out⟩
      case measure => simp [intOf] <;> omega
    · obtain rfl : j = 200 + m := by omega
      have K1 := Lib.hid k1
      have K2 := Lib.hid k2
      have K3 := Lib.hid k3
      clear k1 k2 k3
      go_wp2_with fail
      refine (K1.out.term 1 (by have := likA_cost (200 + m); omega)).mono ?_
      rintro r w4 ⟨rfl, o1', g1, g2⟩
      obtain ⟨g3, g4⟩ := K1.out.beside K2.out hn1 hn2 K3.out g2
      have G1 := Lib.hid g1
      have G2 := Lib.hid g3
      have G3 := Lib.hid g4
      clear g1 g2 g3 g4
      go_wp2_with fail
      refine (G2.out.term 1 (by have := likB_cost (200 + m); omega)).mono ?_
      rintro r w5 ⟨rfl, o2', g1, g2⟩
      obtain ⟨g3, g4⟩ := G2.out.beside G1.out hn1.symm hn2.symm (fun g h1 h2 => G3.out g h2 h1) g2
      have G4 := Lib.hid g1
      have G5 := Lib.hid g3
      clear g1 g2 g3 g4
      obtain ⟨hb1, hb2⟩ := lik_bits (200 + m) (by omega) (by omega)
      obtain ⟨u, hu⟩ : ∃ u, u = strOfNums (packed ((likA (200 + m)).term 1).bits) := ⟨_, rfl⟩
      obtain ⟨v, hv⟩ : ∃ u, u = strOfNums (packed ((likB (200 + m)).term 1).bits) := ⟨_, rfl⟩
      have hu1 : u.size ≤ (200 + m) / 64 + 3 := by rw [hu, strOfNums_size, packed_length]; exact hb1
      have hv1 : (200 + m) / 10 ≤ v.size := by rw [hv, strOfNums_size, packed_length]; exact hb2
      have Hu := Lib.hid hu
      have Hv := Lib.hid hv
      clear hu hv hb1 hb2
      go_wp2_with fail
      refine (G5.out.bytes).mono ?_
      rintro r w6 ⟨rfl, rfl⟩
      rw [← Hu.out]
      have hx1 : ((u.size : Nat) : Int) ≤ ((200 : Int) + m) / 64 + 3 := by omega
      have hx2 : ((200 : Int) + m) / 10 ≤ ((v.size : Nat) : Int) := by omega
      go_wp2_with fail
      refine (G4.out.bytes).mono ?_
      rintro r w6 ⟨rfl, rfl⟩
      rw [← Hv.out]
      go_wp2_with (first | (go_at_call 21; refine (num_any _ _).mono ?_; rintro e w' ⟨rfl, rfl⟩))
      go_ret
      exact ⟨rfl, G4.out.on⟩
end Go.Proofs.YtibojidpifgblaaDoor
