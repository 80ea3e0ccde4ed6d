/-
  SigSmall: blocks of noughts take far less than a bit each.
-/
import Derived.Test.YtgmnkihldlajcaaDoorLaw8Awake
import Derived.Test.YtgmnkihldlajcaaDoorSigCnt
namespace Go.Proofs.YtgmnkihldlajcaaDoor
open Go.RowKit

set_option maxRecDepth 100000 in
set_option maxHeartbeats 1600000 in
theorem law_small (many ct : Int) (w : World) (ha : Asc w) : Calls Tryd.prog 3 #[.int .i64 many, .int .i64 ct] w fun e w' => e = .returned (.bool true) ∧ Only [] w w' := by
  have Ha := Lib.hid ha
  clear ha
  obtain ⟨m, hm, hm2⟩ : ∃ m : Nat, many % 128 = (m : Int) ∧ m < 128 := ⟨(many % 128).toNat, by omega, by omega⟩
  obtain ⟨cat, hcat⟩ : ∃ c : Int, ct % 4 = c := ⟨_, rfl⟩
  have c0 : 0 ≤ cat := by omega
  have c1 : cat ≤ 3 := by omega
  have hC : smC cat < 256 := by unfold smC; omega
  have hfine : blkFine (List.replicate 16 0) cat 0 = true := by
    rcases (show cat = 0 ∨ cat = 1 ∨ cat = 2 ∨ cat = 3 by omega) with rfl | rfl | rfl | rfl <;> decide
  have hcode : blkCode (List.replicate 16 0) cat 0 = 0 := by
    rcases (show cat = 0 ∨ cat = 1 ∨ cat = 2 ∨ cat = 3 by omega) with rfl | rfl | rfl | rfl <;> decide
  obtain ⟨C, hCd⟩ : ∃ C, C = smC cat := ⟨_, rfl⟩
  have Hfine := Lib.hid hfine
  have Hcode := Lib.hid hcode
  have Hstep : Hid (∀ k, (smE C k).run (sigDeeds (List.replicate 16 0) cat 0) = smE C (k + 1)) := Lib.hid (fun k => by rw [hCd]; exact sm_step cat c0 c1 k)
  have Hlive : Hid (∀ k, (smE C k).Live ∧ (smE C k).st.length = 256 ∧ (smE C k).cost ≤ 8 * k) := Lib.hid (fun k => by rw [hCd]; exact smE_live _ hC k)
  have Hbits : Hid ((((smE C (200 + m)).term 1).bits.length + 7) / 8 < (200 + m) / 16 + 16) := Lib.hid (by rw [hCd]; exact sm_bits cat c0 c1 _ (by omega) (by omega))
  clear hfine hcode hCd hC
  go_enter Tryd.func3, Tryd.ntmps3
  go_wp2_with fail
  refine (awake8 w Ha.out).mono ?_
  rintro r w1 ⟨rfl, h1⟩
  have H1 := Lib.hid h1
  clear h1
  go_wp2_with fail
  refine (bins_init 26 w1 (by omega) (by omega)).mono ?_
  rintro r w2 ⟨g1, rfl, hb1, hg1, ho1⟩
  have Hb1 := Lib.hid (init256 hb1)
  have Ho1 := Lib.hid (H1.out.trans ho1)
  clear hb1 ho1 hg1
  go_wp2_with fail
  refine (enc_new Ha.out Ho1.out _ (initL 26) Hb1.out (by rw [initL_length]; omega)).mono ?_
  rintro r w3 ⟨b1, t1, s1, rfl, h2, -, -, -, -⟩
  have H3 : Hid (EncAt w w3 b1 t1 s1 (.slice none 0 0) (smE C 0)) := Lib.hid h2
  clear h2
  go_wp2
  go_loopw [7] (fun i wr => ∃ (j : Nat) (ov : Value), j ≤ 200 + m ∧ i = .int .i64 j ∧ EncAt w wr b1 t1 s1 ov (smE C j)) (fun i _ => 200 + m - (intOf i).toNat)
  case atStart => exact ⟨0, _, Nat.zero_le _, rfl, H3.out⟩
  case round =>
    obtain ⟨j, ov, hj, rfl, k1⟩ := hrel
    have K1 := Lib.hid k1
    clear k1
    by_cases hlt : j < 200 + m
    · go_wp2_with (refine wpList_make1 rfl _ _ rfl elt64 rfl 16 rfl rfl rfl rfl (by decide) (by decide) ?_)
      intro w4 hc4 ho4 hz4
      have K4 := Lib.hid (K1.out.only ho4 (by simp) (by simp) (by simp) (by simp) (by simp))
      have I4 : Hid (IntSlice w4 (.slice (some ⟨wr.heap.size, 0, none⟩) 16 16) (List.replicate 16 0)) := Lib.hid (by
        rw [ints_replicate] at hc4
        exact IntSlice.of_block (cap := 16) hc4)
      clear hc4 ho4 hz4
      go_wp2_with fail
      refine (sig_put K4.out (Hlive.out j).1 (Hlive.out j).2.1 (by have := (Hlive.out j).2.2; omega) _ (List.replicate 16 0) cat 0 I4.out).mono ?_
      rintro r w5 ⟨rfl, ov5, g1, -⟩
      rw [Hfine.out, if_pos rfl, Hstep.out j] at g1
      rw [Hcode.out]
      have K5 := Lib.hid g1
      clear g1
      go_wp2_with (first | (go_at_call 10; refine (num_any _ _).mono ?_; rintro e w' ⟨rfl, rfl⟩))
      go_roundw
      case rel => exact ⟨j + 1, ov5, by omega, by go_num, K5.out⟩
      case measure => simp [intOf] <;> omega
    · obtain rfl : j = 200 + m := by omega
      go_wp2_with fail
      refine (K1.out.term 1 (by have := (Hlive.out (200 + m)).2.2; omega)).mono ?_
      rintro r w4 ⟨rfl, ov4, g1, -⟩
      have K4 := Lib.hid g1
      clear g1
      obtain ⟨u, hu⟩ : ∃ u, u = strOfNums (packed ((smE C (200 + m)).term 1).bits) := ⟨_, rfl⟩
      have hu1 : u.size < (200 + m) / 16 + 16 := by rw [hu, strOfNums_size, packed_length]; exact Hbits.out
      have Hu := Lib.hid hu
      clear hu
      have hx1 : ((u.size : Nat) : Int) < ((200 : Int) + m) / 16 + 16 := by omega
      go_wp2_with fail
      refine (K4.out.bytes).mono ?_
      rintro r w6 ⟨rfl, rfl⟩
      rw [← Hu.out]
      go_wp2
      go_ret
      exact ⟨rfl, K4.out.on⟩
end Go.Proofs.YtgmnkihldlajcaaDoor
