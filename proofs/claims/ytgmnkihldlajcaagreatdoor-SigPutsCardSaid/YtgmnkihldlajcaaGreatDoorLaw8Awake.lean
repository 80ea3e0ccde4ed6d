/-
  zoetropelaw8's awake answers true.
-/
import Derived.Test.YtgmnkihldlajcaaGreatDoorSigE
import Derived.Test.YtgmnkihldlajcaaGreatDoorSigG
import Derived.Test.YtgmnkihldlajcaaGreatDoorBinsInit
namespace Go.Proofs.YtgmnkihldlajcaaGreatDoor
open Go.RowKit

/-- One block, written and closed: its text, and the decoder that begins over it. -/
theorem blk_read (st : List Int) (cs : List Int) (cat inc : Int) (hst : st.length = 256) (hf : blkFine cs cat inc = true) :
    ((Enc.new st).run (sigDeeds cs cat inc)).Live ∧ ((Enc.new st).run (sigDeeds cs cat inc)).st.length = 256 ∧ ((Enc.new st).run (sigDeeds cs cat inc)).cost ≤ 40000 ∧ beginCode ((Enc.new st).run (sigDeeds cs cat inc)).text = 0 ∧
      ((Enc.new st).run (sigDeeds cs cat inc)).text.size ≤ 20000 ∧ ∃ d', (Dec.begin ((Enc.new st).run (sigDeeds cs cat inc)).text st).gives (sigDeeds cs cat inc) d' := by
  obtain ⟨h1, h2⟩ := blkFine_spec hf
  obtain ⟨hsz, m1, m2, m3, m4⟩ := mayB_spec h1
  have hl : (Enc.new st).st.length = 256 := by simp [Enc.new, beginOf, hst]
  have hfit : ∀ o ∈ sigDeeds cs cat inc, o.fits st.length := by rw [hst]; exact sigDeeds_fits cs cat inc m1 m3
  obtain ⟨l1, l2, l3⟩ := (Enc.new st).live_run (sigDeeds cs cat inc) (Enc.live_new st) (fun o ho => by rw [hl, ← hst]; exact hfit o ho)
  have hlen := sigDeeds_length cs cat inc (by omega)
  have h0 : (Enc.new st).cost = 0 := rfl
  obtain ⟨z1, z2, z3, z4⟩ := Read.begins st _ hfit
  obtain ⟨d', hg, -⟩ := Read.gives st _ (sigDeeds cs cat inc) hfit 0 _ [] z4 (by simp)
  have hts := ((Enc.new st).run (sigDeeds cs cat inc)).text_size l1
  have hstp : ((Enc.new st).run (sigDeeds cs cat inc)).steps ≤ ((Enc.new st).run (sigDeeds cs cat inc)).cost + 1 := by
    unfold Enc.cost Enc.steps
    split <;> omega
  refine ⟨l1, l2.trans hl, by omega, by unfold beginCode; rw [if_neg z2, if_neg z3], by omega, d', hg⟩

theorem aw_f1 : blkFine [0, 3, 0, -1] 1 0 = true := by decide +kernel
theorem aw_c1 : blkCode [0, 3, 0, -1] 1 0 = 0 := by decide +kernel
theorem aw_f2 : blkFine [0] 1 0 = false := by decide +kernel
theorem aw_c2 : blkCode [0] 1 0 = 800 := by decide +kernel
theorem init256 {w : World} {g : Nat} {qp : Int} (h : w.heap[g]? = some (.cells (ints (initL qp)) 3 (0, 0))) : IntSlice w (.slice (some ⟨g, 0, none⟩) 256 256) (initL qp) := by
  have := IntSlice.of_block (cap := 256) h
  rw [initL_length] at this
  exact this

set_option maxRecDepth 100000 in
set_option maxHeartbeats 3200000 in
theorem awake8 (w : World) (ha : Asc w) : Calls Tryz.prog 17 #[] w fun e w' => e = .returned (.bool true) ∧ Only [] w w' := by
  have Ha := Lib.hid ha
  clear ha
  have hB := blk_read (initL 20) [0, 3, 0, -1] 1 0 (initL_length 20) aw_f1
  obtain ⟨l1, l2, l3, l4, l5, d', l6⟩ := hB
  obtain ⟨st, hst⟩ : ∃ st, st = initL 20 := ⟨_, rfl⟩
  have hlen : st.length = 256 := by rw [hst]; exact initL_length 20
  rw [← hst] at l1 l2 l3 l4 l5 l6
  obtain ⟨ops, hops⟩ : ∃ o, o = sigDeeds [0, 3, 0, -1] 1 0 := ⟨_, rfl⟩
  have Hg6 := Lib.hid l6
  rw [← hops] at l1 l2 l3 l4 l5 Hg6
  have Hops := Lib.hid hops
  obtain ⟨S, hS⟩ : ∃ S, S = ((Enc.new st).run ops).text := ⟨_, rfl⟩
  rw [← hS] at l4 l5 Hg6
  have L1 := Lib.hid l1
  have L2 := Lib.hid l2
  have L3 := Lib.hid l3
  have L4 := Lib.hid l4
  have HS := Lib.hid hS
  have Hst := Lib.hid hst
  have Hlen := Lib.hid hlen
  clear l1 l2 l3 l4 l6 hS hst hlen hops
  go_enter Tryz.func17, Tryz.ntmps17
  go_wp2_with fail
  refine (bins_init 20 w (by omega) (by omega)).mono ?_
  rintro r w1 ⟨g1, rfl, hb1, hg1, ho1⟩
  have Hb1 := Lib.hid (init256 hb1)
  rw [← Hst.out] at Hb1
  have Ho1 := Lib.hid ho1
  clear hb1 ho1 hg1
  go_wp2_with fail
  refine (enc_new (Ha.out.only Ho1.out (by simp)) (Only.refl _ w1) _ st Hb1.out (by rw [Hlen.out]; omega)).mono ?_
  rintro r w2 ⟨b1, t1, s1, rfl, h2, h2o, -, -, -⟩
  have H2 := Lib.hid h2
  clear h2 h2o
  go_wp2_with fail
  have hl0 : (Enc.new st).st.length = 256 := by rw [← Hlen.out]; simp [Enc.new, beginOf]
  refine (sig_put (H2.out.only ((Only.refl [] w2).alloc _) (by simp) (by simp) (by simp) (by simp) (by simp)) (Enc.live_new st) hl0 (by show (0 : Nat) < _; omega) (.slice (some ⟨w2.heap.size, 0, none⟩) 4 4) [0, 3, 0, -1] 1 0 (IntSlice.of_block (e := 3) (xs := [0, 3, 0, -1]) (heap_alloc_at w2 _))).mono ?_
  rintro r w3 ⟨rfl, ov3, g1, -⟩
  rw [aw_c1]
  rw [aw_f1, if_pos rfl, ← Hops.out] at g1
  have H3 := Lib.hid g1
  clear g1 hl0
  go_wp2_with fail
  refine (sig_put (H3.out.only ((Only.refl [] w3).alloc _) (by simp) (by simp) (by simp) (by simp) (by simp)) L1.out L2.out (by have := L3.out; omega) (.slice (some ⟨w3.heap.size, 0, none⟩) 1 1) [0] 1 0 (IntSlice.of_block (e := 3) (xs := [0]) (heap_alloc_at w3 _))).mono ?_
  rintro r w4 ⟨rfl, ov4, g1, -⟩
  rw [aw_c2]
  rw [aw_f2, if_neg (by decide)] at g1
  have H4 := Lib.hid g1
  clear g1
  go_wp2_with fail
  refine (H4.out.term 1 (by have := L3.out; omega)).mono ?_
  rintro r w5 ⟨rfl, ov5, g1, -⟩
  have H5 := Lib.hid g1
  clear g1
  go_wp2_with fail
  refine (H5.out.bytes).mono ?_
  rintro r w6 ⟨rfl, rfl⟩
  rw [show strOfNums (packed (((Enc.new st).run ops).term 1).bits) = S from HS.out.symm]
  go_wp2_with fail
  refine (bins_init 20 w5 (by omega) (by omega)).mono ?_
  rintro r w6 ⟨g6, rfl, hb6, hg6, ho6⟩
  have Hb6 := Lib.hid (init256 hb6)
  rw [← Hst.out] at Hb6
  have Ho6 := Lib.hid (H5.out.on.trans ho6)
  clear hb6 ho6 hg6
  go_wp2_with fail
  refine (dec_new (Ha.out.only Ho1.out (by simp)) Ho6.out S _ st Hb6.out (by rw [Hlen.out]; omega) (by omega)).mono ?_
  rintro r w7 ⟨b2, t2, s2, rfl, g1, g2, -, -, -⟩
  have hp : beginPtr S b2 = .pointer (some ⟨b2, 0, none⟩) := by unfold beginPtr; rw [L4.out, if_pos rfl]
  rw [hp, L4.out]
  have D0 := Lib.hid (g1 L4.out)
  clear g1 g2 hp
  go_wp2_with fail
  refine (sig_get D0.out [0, 3, 0, -1] 1 0 (blkFine_spec aw_f1).1 (blkFine_spec aw_f1).2 (by rw [← Hops.out]; exact Hg6.out) (by show S.size ≤ _; omega) (by rw [← Hlen.out]; simp [Dec.begin, beginOf])).mono ?_
  rintro r w8 ⟨g8, cap8, rfl, g2, g3, -⟩
  have I8 := Lib.hid g2
  have D8 := Lib.hid g3.on
  clear g2 g3
  go_wp2_with fail
  refine (sigput_nil _ _ _ _).mono ?_
  rintro r w9 ⟨rfl, rfl⟩
  go_wp2_with (first | (go_at_call 10; refine (num_any _ _).mono ?_; rintro e w' ⟨rfl, rfl⟩))
  have hx1 : IntSlice ((w8.alloc (.cells #[.int .i64 0, .int .i64 0, .int .i64 0, .int .i64 0] 3)).alloc (.cells #[.int .i64 0, .int .i64 3, .int .i64 0, .int .i64 (-1)] 3)) (.slice (some ⟨g8, 0, none⟩) 4 cap8) [0, 3, 0, -1] := IntSlice.alloc (IntSlice.alloc I8.out _) _
  have hx2 : ((w8.alloc (.cells #[.int .i64 0, .int .i64 0, .int .i64 0, .int .i64 0] 3)).alloc (.cells #[.int .i64 0, .int .i64 3, .int .i64 0, .int .i64 (-1)] 3)).heap[w8.heap.size + 1]? = some (.cells (ints [0, 3, 0, -1]) 3 (0, 0)) := by
    have := heap_alloc_at (w8.alloc (.cells #[.int .i64 0, .int .i64 0, .int .i64 0, .int .i64 0] 3)) (.cells (ints [0, 3, 0, -1]) 3)
    rw [World.size_alloc] at this
    exact this
  refine (same_ints _ _ [0, 3, 0, -1] [0, 3, 0, -1] _ hx1 (IntSlice.of_block (cap := 4) hx2) (by simp) (by simp)).mono ?_
  rintro r w10 ⟨rfl, g1⟩
  have H10 := Lib.hid ((((D8.out).alloc _).alloc _).trans g1)
  clear g1
  rw [decide_eq_true (show ([0, 3, 0, -1] : List Int) = [0, 3, 0, -1] from rfl)]
  go_wp2_with (first | (go_at_call 10; refine (num_any _ _).mono ?_; rintro e w' ⟨rfl, rfl⟩))
  go_ret
  exact ⟨rfl, Ho1.out.trans H10.out⟩
end Go.Proofs.YtgmnkihldlajcaaGreatDoor
