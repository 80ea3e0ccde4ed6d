/-
  SigPuts: blocks by the engine are the document's.
-/
import Derived.Test.YtgmnkihldlajcaaGreatDoorRefSigB
import Derived.Test.YtgmnkihldlajcaaGreatDoorHoldS
import Derived.Test.YtgmnkihldlajcaaGreatDoorLend
import Derived.Test.YtgmnkihldlajcaaGreatDoorRefBins
import Derived.Test.YtgmnkihldlajcaaGreatDoorLawSigBack
namespace Go.Proofs.YtgmnkihldlajcaaGreatDoor
open Go.RowKit

theorem reach_second {H : Type} {P : Program} {t0 t1 : TypeId} {ts : List TypeId} {d0 d1 : DataW H} {r : List (DataW H)} (h : (DataW.weightsEach P (t0 :: t1 :: ts) (d0 :: d1 :: r)).all (· ≤ reachBytes) = true) : (DataW.weights P t1 d1).all (· ≤ reachBytes) = true := by
  unfold DataW.weightsEach at h
  rw [List.all_append, Bool.and_eq_true] at h
  have h2 := h.2
  unfold DataW.weightsEach at h2
  rw [List.all_append, Bool.and_eq_true] at h2
  exact h2.1
theorem next_blks (e0 : Enc) (ys : List Blk) (j : Nat) (h : j < ys.length) :
    (if (ys.getD j blk0).fine then (e0.run (blksOps (doneBlks ys j))).run (ys.getD j blk0).deeds else e0.run (blksOps (doneBlks ys j))) = e0.run (blksOps (doneBlks ys (j + 1))) := by
  rw [doneBlks_step ys j h]
  by_cases hf : (ys.getD j blk0).fine = true
  · rw [if_pos hf, if_pos hf, blksOps_snoc, Enc.run_append]
  · rw [if_neg hf, if_neg hf]
/-- A lent row reads as the list. -/
theorem lent_slice {w : World} {B g cap : Nat} {xs : List Int} (ho : w.ownsRow B 3 1 (.slice (some ⟨g, 0, none⟩) (xs.length + 2) cap) (xs.length + 2) ((xs ++ [-7777, -8888]).map (Value.int .i64))) : IntSlice w (.slice (some ⟨g, 0, none⟩) xs.length cap) xs := by
  refine ⟨_, _, rfl, .inr ⟨g, 0, rfl, fun i hi => ?_⟩⟩
  rw [Nat.zero_add, ho.cellAt i (by omega)]
  rw [List.map_append, List.getElem?_append_left (by simpa using hi)]
  simp [List.getD, List.getElem?_eq_getElem hi]

set_option maxRecDepth 100000 in
set_option maxHeartbeats 16000000 in
theorem law_sigputs (qp : Int) (u : Value) (ys : List Blk) (w : World) (ha : Asc w) (hq0 : -9223372036854775808 ≤ qp) (hq1 : qp ≤ 9223372036854775807) (hu : BlkSlice w u ys) (hl2 : ys.length ≤ 9223372036854775807) (hfit : ∀ y ∈ ys, blkFits y) :
    Calls Tryz.prog 3 #[.int .i64 qp, u] w fun e w' => e = .returned (.bool true) ∧ Only [] w w' := by
  have Ha := Lib.hid ha
  obtain ⟨bo, cap2, rfl, hd⟩ := hu
  have Hd := Lib.hid hd
  have Hfit := Lib.hid hfit
  clear hd ha hfit
  go_enter Tryz.func3, Tryz.ntmps3
  go_wp2_with fail
  refine (bins_init qp w hq0 hq1).mono ?_
  rintro r w1 ⟨g1, rfl, hb1, hg1, ho1⟩
  have Hb1 := Lib.hid (init256 hb1)
  have Ho1 := Lib.hid ho1
  clear hb1 ho1
  go_wp2_with fail
  refine (enc_new (Ha.out.only Ho1.out (by simp)) (Only.refl _ w1) _ (initL qp) Hb1.out (by rw [initL_length]; omega)).mono ?_
  rintro r w2 ⟨b1, t1, s1, rfl, h2, h2o, -, -, -⟩
  have H2 := Lib.hid h2
  have H2o := Lib.hid h2o
  clear h2 h2o
  go_wp2_with fail
  refine (ref_init qp w2 hq0 hq1).mono ?_
  rintro r w3 ⟨g3, rfl, hb3, hg3, ho3⟩
  have Hb3 := Lib.hid (init256 hb3)
  have Ho3 := Lib.hid ho3
  clear hb3 ho3
  go_wp2_with fail
  refine (ref_new _ (initL qp) w3 Hb3.out (by rw [initL_length]; omega)).mono ?_
  rintro r w4 ⟨b2, t2, s2, rfl, h3, h3o, k1, k2, k3⟩
  have hz3 := Ho3.out.size
  have HP := Lib.hid (pair_new H2.out h3 (Ho3.out.trans h3o) (by omega) (by omega) (by omega))
  clear h3 h3o k1 k2 k3 H2 H2o Hb3 Ho3 hz3 hg3 hg1
  go_wp2
  obtain ⟨N, hN⟩ : ∃ n, n = min 30 ys.length := ⟨_, rfl⟩
  have hNa : N ≤ 30 := by omega
  have hNb : N ≤ ys.length := by omega
  have HN := Lib.hid hN
  have hlen : (initL qp).length = 256 := initL_length qp
  have Hlen := Lib.hid hlen
  obtain ⟨st, hst⟩ : ∃ st, st = initL qp := ⟨_, rfl⟩
  rw [← hst] at HP Hlen
  clear hN hlen hst
  have hlive : ∀ j, ((Enc.new st).run (blksOps (doneBlks ys j))).Live ∧ ((Enc.new st).run (blksOps (doneBlks ys j))).st.length = 256 ∧ (j ≤ 30 → ((Enc.new st).run (blksOps (doneBlks ys j))).cost ≤ 1200000) := by
    intro j
    have hl : (Enc.new st).st.length = 256 := by rw [← Hlen.out]; simp [Enc.new, beginOf]
    have h := (Enc.new st).live_run (blksOps (doneBlks ys j)) (Enc.live_new st) (fun o ho => by rw [hl]; exact blksOps_fits _ (doneBlks_fine ys j) o ho)
    refine ⟨h.1, h.2.1.trans hl, fun hj => ?_⟩
    have h1 := blksOps_length (doneBlks ys j) (doneBlks_fine ys j)
    have h2 := doneBlks_length ys j
    have h3 := h.2.2
    have h4 : (Enc.new st).cost = 0 := rfl
    omega
  have Hlive := Lib.hid hlive
  clear hlive
  go_loopw [7] (fun i wr => ∃ (j : Nat) (o1 o2 : Value), j ≤ N ∧ i = .int .i64 j ∧ Pair w1 wr b1 t1 s1 b2 t2 s2 o1 o2 ((Enc.new st).run (blksOps (doneBlks ys j))) ((Enc.new st).run (blksOps (doneBlks ys j)))) (fun i _ => N - (intOf i).toNat)
  case atStart => exact ⟨0, _, _, Nat.zero_le _, rfl, HP.out⟩
  case round =>
    obtain ⟨j, o1, o2, hj, rfl, kp⟩ := hrel
    have hnx : j < ys.length → (if (ys.getD j blk0).fine then ((Enc.new st).run (blksOps (doneBlks ys j))).run (ys.getD j blk0).deeds else (Enc.new st).run (blksOps (doneBlks ys j))) = (Enc.new st).run (blksOps (doneBlks ys (j + 1))) := next_blks (Enc.new st) ys j
    obtain ⟨hl1, hl2', hl3⟩ := Hlive.out j
    obtain ⟨E1, hE1⟩ : ∃ E, E = (Enc.new st).run (blksOps (doneBlks ys j)) := ⟨_, rfl⟩
    rw [← hE1] at kp hl1 hl2' hl3 hnx
    have Hc1 : Hid (E1.cost ≤ 1200000) := Lib.hid (hl3 (by omega))
    have KP0 := Lib.hid kp
    have HL1 := Lib.hid hl1
    have HL2 := Lib.hid hl2'
    clear hE1 kp hl1 hl2' hl3
    by_cases hlq : j < N
    · rcases Hd.out with hx | ⟨gy, offy, rfl, hcell⟩
      · rw [hx] at hNb; simp at hNb; omega
      have hq1' : j < 30 := by omega
      have hq2 : j < ys.length := by omega
      obtain ⟨a0, a1, a2, a3, a4, a5⟩ := hcell j hq2
      have hnx := hnx hq2
      have hfj := Hfit.out (ys.getD j blk0) (by rw [show ys.getD j blk0 = ys[j] by simp [List.getD, List.getElem?_eq_getElem hq2]]; exact List.getElem_mem hq2)
      have hdd : (ys.getD j blk0).deeds = sigDeeds (ys.getD j blk0).cs (ys.getD j blk0).cat (ys.getD j blk0).inc := rfl
      have hff : (ys.getD j blk0).fine = blkFine (ys.getD j blk0).cs (ys.getD j blk0).cat (ys.getD j blk0).inc := rfl
      have hfj : (ys.getD j blk0).cs.length ≤ 17592186043904 := hfj
      rw [hdd, hff] at hnx
      obtain ⟨x0, h0⟩ : ∃ k, k = (ys.getD j blk0).u := ⟨_, rfl⟩
      obtain ⟨x1, h1⟩ : ∃ k, k = (ys.getD j blk0).cat := ⟨_, rfl⟩
      obtain ⟨x2, h2⟩ : ∃ k, k = (ys.getD j blk0).inc := ⟨_, rfl⟩
      obtain ⟨cs, h3⟩ : ∃ k, k = (ys.getD j blk0).cs := ⟨_, rfl⟩
      rw [← h0, ← h3] at a3 a5
      rw [← h1] at a1 hnx
      rw [← h2] at a2 hnx
      rw [← h3] at a4 hnx hfj
      rw [← h0] at a0
      obtain ⟨ai, ci, hxi, -⟩ := id a3
      have hlend := fun (wx : World) (hx : Only [] w wx) => lend_ints x0 cs wx (a3.later hx) a5 (by omega)
      have hkept := fun (wx : World) (hx : Only [] w wx) (g cap B : Nat) => kept_ints x0 cs g cap B wx (a3.later hx)
      obtain ⟨n, hn⟩ : ∃ n, n = cs.length := ⟨_, rfl⟩
      rw [← hn] at hxi
      have hlent := fun (wx : World) (B g cap : Nat) => @lent_slice wx B g cap cs
      simp only [← hn] at hlend hkept hlent
      subst hxi
      have I0 := Lib.hid a3
      have A0 := Lib.hid a0
      have A1 := Lib.hid a1
      have A2 := Lib.hid a2
      have Hlend := Lib.hid hlend
      have Hkept := Lib.hid hkept
      have Hlent := Lib.hid hlent
      have hcost : Hid (E1.cost < 400000000) := Lib.hid (by have := Hc1.out; omega)
      obtain ⟨E2, hE2⟩ : ∃ E, E = (Enc.new st).run (blksOps (doneBlks ys (j + 1))) := ⟨_, rfl⟩
      rw [← hE2] at hnx
      have HE2 := Lib.hid hE2
      obtain ⟨cc, hcc⟩ : ∃ c, c = blkCode cs x1 x2 := ⟨_, rfl⟩
      have Hnx := Lib.hid hnx
      have Hcc := Lib.hid hcc
      have Hn := Lib.hid hn
      have hfn : n ≤ 17592186043904 := by rw [hn]; exact hfj
      clear hcell h0 h1 h2 h3 hnx hdd hff a0 a1 a2 a3 a4 a5 hlend hkept hlent hcc hE2 hn hfj
      have c0 := KP0.out.a.on.cell (Ho1.out.cell A0.out (by simp)) (by simp)
      go_wp2_with fail
      refine (Hlend.out wr (Ho1.out.trans KP0.out.a.on)).mono ?_
      rintro r w4 ⟨g, cap, rfl, hg, hcap, hown, ho4⟩
      have KP4 := Lib.hid (KP0.out.only ho4)
      have Own4 := Lib.hid hown
      have hlow := KP0.out.a.low
      have hlow2 := lt_of_block KP0.out.r.is.sts
      have c1 := KP4.out.a.on.cell (Ho1.out.cell A1.out (by simp)) (by simp)
      have c2 := KP4.out.a.on.cell (Ho1.out.cell A2.out (by simp)) (by simp)
      rw [← Nat.add_assoc] at c1 c2
      have hg1 : g ≠ s1 := by omega
      have hg2 : g ≠ s2 := by omega
      clear c0 hown ho4 hlow hlow2 KP0
      go_wp2
      go_still_tail 12, (by kernel_rfl)
      change wpList _ _ _ _ _ w4.drew
      have KP4d := Lib.hid KP4.out.drew
      have Own4d := Lib.hid (ownsRow_of_block (w' := w4.drew) Own4.out (fun _ _ => rfl))
      clear c1 c2 KP4 Own4
      generalize w4.drew = wd at *
      go_wp2_with fail
      refine (sig_put KP4d.out.a HL1.out HL2.out hcost.out _ cs x1 x2 (Hlent.out _ _ _ _ Own4d.out)).mono ?_
      rintro r w5 ⟨rfl, ov1, g1, g2⟩
      rw [Hnx.out] at g1
      rw [← Hcc.out]
      have KP5 := Lib.hid (KP4d.out.enc g1 g2)
      have Own5 := Lib.hid (ownsRow_of_block (w' := w5) Own4d.out (fun z hz => by
        obtain ⟨cz, hcz⟩ := ownsRow_block Own4d.out hz
        simp [Value.ownBlock] at hz
        subst hz
        refine g2.only.block g (lt_of_block hcz) ?_
        simp only [List.mem_cons, Option.mem_toList, not_or]
        exact ⟨block_type hcz KP4d.out.a.is.cells (by decide), hg1, fun hi => by obtain ⟨c2, hc2⟩ := ownsRow_block KP4d.out.a.is.out hi; exact block_type hcz hc2 (by decide) rfl⟩))
      clear g1 g2 KP4d Own4d
      have c0 := KP5.out.a.on.cell (Ho1.out.cell A0.out (by simp)) (by simp)
      have c1 := KP5.out.a.on.cell (Ho1.out.cell A1.out (by simp)) (by simp)
      have c2 := KP5.out.a.on.cell (Ho1.out.cell A2.out (by simp)) (by simp)
      rw [← Nat.add_assoc] at c1 c2
      have P5d := Lib.hid KP5.out.drew
      have Own5d := Lib.hid (ownsRow_of_block (w' := w5.drew) Own5.out (fun _ _ => rfl))
      go_wp2
      go_region_held3 (fun w' => w'.cell? ⟨gy, offy + j * 3, none⟩ = some (.slice ai n ci) ∧ w'.cell? ⟨gy, offy + j * 3 + 1, none⟩ = some (.int .i64 x1) ∧ w'.cell? ⟨gy, offy + j * 3 + 2, none⟩ = some (.int .i64 x2)) (first | exact ⟨c0, c1, c2⟩ | exact ⟨e0, e1, e2⟩ | exact ⟨d0, d1, d2⟩ | go_keep | assumption)
        (first
          | (go_at_call 10; refine (num_any _ _).mono ?_; rintro e w' ⟨rfl, rfl⟩)
          | (go_at_call 11; refine (ref_code P5d.out.r HL1.out HL2.out hcost.out _ cs x1 x2 (I0.out.later Ho1.out)).mono ?_; rintro r w6 ⟨rfl, ov2, g1, g2⟩; rw [Hnx.out] at g1; rw [← Hcc.out]; have KP6 := Lib.hid (P5d.out.ref g1 g2);
              have Own6 := Lib.hid (ownsRow_of_block (w' := w6) Own5d.out (fun z hz => by
                obtain ⟨cz, hcz⟩ := ownsRow_block Own5d.out hz
                simp [Value.ownBlock] at hz
                subst hz
                refine g2.only.block g (lt_of_block hcz) ?_
                simp only [List.mem_cons, Option.mem_toList, not_or]
                exact ⟨block_type hcz P5d.out.r.is.cells (by decide), hg2, fun hi => by obtain ⟨c2, hc2⟩ := ownsRow_block P5d.out.r.is.out hi; exact block_type hcz hc2 (by decide) rfl⟩));
              have d0 := KP6.out.a.on.cell (Ho1.out.cell A0.out (by simp)) (by simp); have d1 := KP6.out.a.on.cell (Ho1.out.cell A1.out (by simp)) (by simp); have d2 := KP6.out.a.on.cell (Ho1.out.cell A2.out (by simp)) (by simp); rw [← Nat.add_assoc] at d1 d2; clear g1 g2)
          | (go_at_call 12; refine (Hkept.out w6 (Ho1.out.trans KP6.out.a.on) g cap _ hcap Own6.out (by omega)).mono ?_; rintro r w7 ⟨rfl, g1⟩; have KP7 := Lib.hid (KP6.out.only g1); have e0 := g1.cell d0 (by simp); have e1 := g1.cell d1 (by simp); have e2 := g1.cell d2 (by simp); clear g1))
      clear c0 c1 c2 d0 d1 d2 e0 e1 e2
      go_wp2
      go_roundw
      case rel => exact ⟨j + 1, ov1, ov2, by omega, by go_num, by have := KP7.out; rw [HE2.out] at this; exact this⟩
      case measure => simp [intOf] <;> omega
    · obtain rfl : j = N := by omega
      have hend3 : (ys.length ≤ j) ∨ (j = 30 ∧ j < ys.length) := by have := HN.out; omega
      clear hnx
      rcases hend3 with hend3 | ⟨hend3, hend4⟩
      all_goals
        have P8d := Lib.hid KP0.out.drew
        have e0 : wr.cell? ⟨b2, 0, none⟩ = some (.slice (some ⟨s2, 0, none⟩) 256 256) := by rw [cells_of KP0.out.r.is.cells, HL2.out]; rfl
        obtain ⟨S, hS⟩ : ∃ S, S = strOfNums (packed E1.bits) := ⟨_, rfl⟩
        have hS2 : (S.toList == S.toList) = true := text_eq rfl
        have HS := Lib.hid hS
        have HL3 : Hid (E1.st.length ≤ 9000000000000000000) := Lib.hid (by have := HL2.out; omega)
        clear hS
        go_wp2
        go_region_held3 (fun w' => w'.cell? ⟨b2, 0, none⟩ = some (.slice (some ⟨s2, 0, none⟩) 256 256)) (first | exact e0 | go_keep | assumption)
          (first
            | (go_at_call 13; refine (P8d.out.a.bytes).mono ?_; rintro r4 w11 ⟨rfl, rfl⟩; rw [← HS.out])
            | (go_at_call 14; refine (P8d.out.r.bytes (by have := Hc1.out; omega)).mono ?_; rintro r5 w12 ⟨rfl, g1, ho12⟩; rw [← HS.out]; have P12 := Lib.hid (P8d.out.only ho12); have e7 : w12.cell? ⟨b2, 0, none⟩ = some (.slice (some ⟨s2, 0, none⟩) 256 256) := ho12.cell (w := wr.drew) e0 (by simp); clear g1 ho12)
            | (go_at_call 16; refine (P12.out.a.states (by have := HL2.out; omega)).mono ?_; rintro r2 w9 ⟨v2, rfl, g1, g2, g3⟩; have V9 := Lib.hid g1; have P9 := Lib.hid (P12.out.only g3); have e5 : w9.cell? ⟨b2, 0, none⟩ = some (.slice (some ⟨s2, 0, none⟩) 256 256) := g3.cell e7 (by simp); clear g1 g2 g3)
            | (go_at_call 15; refine (same_self v2 (.slice (some ⟨s2, 0, none⟩) 256 256) E1.st w9 (IntSlice.of_owned V9.out) (ref_states P9.out.r HL2.out.symm) HL3.out).mono ?_; rintro r3 w10 ⟨rfl, ho10⟩; have P10 := Lib.hid (P9.out.only ho10); have e6 : w10.cell? ⟨b2, 0, none⟩ = some (.slice (some ⟨s2, 0, none⟩) 256 256) := ho10.cell e5 (by simp); clear ho10)
            | (go_at_call 10; refine (num_any _ _).mono ?_; rintro e w' ⟨rfl, rfl⟩)
            | (go_at_call 17; refine (awake8 w10 (Ha.out.only (Ho1.out.trans P10.out.a.on) (by simp))).mono ?_; rintro r6 w13 ⟨rfl, ho13⟩; have e8 : w13.cell? ⟨b2, 0, none⟩ = some (.slice (some ⟨s2, 0, none⟩) 256 256) := ho13.cell e6 (by simp)))
        go_wp2
        go_ret
        exact ⟨rfl, Ho1.out.trans (P10.out.a.on.trans ho13)⟩
end Go.Proofs.YtgmnkihldlajcaaGreatDoor
