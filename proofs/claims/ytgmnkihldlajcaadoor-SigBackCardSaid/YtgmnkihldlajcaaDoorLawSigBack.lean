/-
  SigBack: blocks come back as they were.
-/
import Derived.Test.YtgmnkihldlajcaaDoorLaw8Awake
import Derived.Test.YtgmnkihldlajcaaDoorDoor3
namespace Go.Proofs.YtgmnkihldlajcaaDoor
open Go.RowKit

/-- May a block be; its acts. -/
def Blk.fine (y : Blk) : Bool := blkFine y.cs y.cat y.inc
def Blk.deeds (y : Blk) : List Deed := sigDeeds y.cs y.cat y.inc
def doneBlks (ys : List Blk) (j : Nat) : List Blk := (ys.take j).filter Blk.fine
def blksOps (D : List Blk) : List Deed := D.flatMap Blk.deeds
theorem doneBlks_fine (ys : List Blk) (j : Nat) : ∀ a ∈ doneBlks ys j, a.fine = true := fun _ h => (List.mem_filter.1 h).2
theorem doneBlks_mem (ys : List Blk) (j : Nat) : ∀ a ∈ doneBlks ys j, a ∈ ys := fun _ h => List.mem_of_mem_take (List.mem_filter.1 h).1
theorem doneBlks_length (ys : List Blk) (j : Nat) : (doneBlks ys j).length ≤ j := by
  have := List.length_filter_le Blk.fine (ys.take j)
  have := List.length_take_le j ys
  unfold doneBlks
  omega
theorem doneBlks_step (ys : List Blk) (j : Nat) (h : j < ys.length) : doneBlks ys (j + 1) = if (ys.getD j blk0).fine then doneBlks ys j ++ [ys.getD j blk0] else doneBlks ys j := by
  unfold doneBlks
  have he : ys.getD j blk0 = ys[j] := by simp [List.getD, List.getElem?_eq_getElem h]
  rw [List.take_add_one, List.getElem?_eq_getElem h, List.filter_append, he]
  by_cases hf : ys[j].fine = true <;> simp [hf]
theorem Blk.spec {y : Blk} (h : y.fine = true) : mayB y.cs.length y.cat y.inc = true ∧ rangeB y.cs = true := blkFine_spec h
theorem Blk.small {y : Blk} (h : y.fine = true) : y.cs.length ≤ 16 ∧ 0 ≤ y.cat ∧ 0 ≤ y.inc := by
  obtain ⟨h1, h2, h3, h4, h5⟩ := mayB_spec (Blk.spec h).1
  omega
theorem Blk.deeds_fits {y : Blk} (h : y.fine = true) : ∀ o ∈ y.deeds, o.fits 256 := sigDeeds_fits _ _ _ (Blk.small h).2.1 (Blk.small h).2.2
theorem Blk.deeds_length {y : Blk} (h : y.fine = true) : y.deeds.length ≤ 5000 := sigDeeds_length _ _ _ (Blk.small h).1
theorem blksOps_fits (D : List Blk) (h : ∀ a ∈ D, a.fine = true) : ∀ o ∈ blksOps D, o.fits 256 := by
  intro o ho
  obtain ⟨a, ha, hoa⟩ := List.mem_flatMap.1 ho
  exact Blk.deeds_fits (h a ha) o hoa
theorem blksOps_length (D : List Blk) (h : ∀ a ∈ D, a.fine = true) : (blksOps D).length ≤ 5000 * D.length := by
  induction D with
  | nil => simp [blksOps]
  | cons a D ih =>
    have h1 := Blk.deeds_length (h a (by simp))
    have h2 : (blksOps (a :: D)).length = a.deeds.length + (blksOps D).length := by simp [blksOps]
    have h3 := ih (fun b hb => h b (by simp [hb]))
    rw [h2, List.length_cons]
    omega
theorem blksOps_snoc (D : List Blk) (a : Blk) : blksOps (D ++ [a]) = blksOps D ++ a.deeds := by simp [blksOps]
theorem blksOps_split (D : List Blk) (p : Nat) (h : p < D.length) : (blksOps D).drop (blksOps (D.take p)).length = (D.getD p blk0).deeds ++ blksOps (D.drop (p + 1)) ∧ (blksOps (D.take (p + 1))).length = (blksOps (D.take p)).length + (D.getD p blk0).deeds.length := by
  have he : D.getD p blk0 = D[p] := by simp [List.getD, List.getElem?_eq_getElem h]
  have h1 : blksOps D = blksOps (D.take p) ++ ((D.getD p blk0).deeds ++ blksOps (D.drop (p + 1))) := by
    have h2 : D = D.take p ++ (D.getD p blk0 :: D.drop (p + 1)) := by
      rw [he, ← List.drop_eq_getElem_cons h, List.take_append_drop]
    have h3 : blksOps (D.take p ++ (D.getD p blk0 :: D.drop (p + 1))) = blksOps (D.take p) ++ ((D.getD p blk0).deeds ++ blksOps (D.drop (p + 1))) := by simp [blksOps]
    rw [← h3, ← h2]
  constructor
  · rw [h1, List.drop_left]
  · rw [List.take_add_one, List.getElem?_eq_getElem h, he]
    show (blksOps (D.take p ++ [D[p]])).length = _
    rw [blksOps_snoc, List.length_append]
/-- The cells of such rows. -/
def blkCells (y : Blk) : List Value := [y.u, .int .i64 y.cat, .int .i64 y.inc]
def flatBlks (D : List Blk) : List Value := D.flatMap blkCells
theorem flatBlks_snoc (D : List Blk) (a : Blk) : flatBlks (D ++ [a]) = flatBlks D ++ blkCells a := by simp [flatBlks]
theorem flatBlks_at (D : List Blk) : ∀ (p q : Nat), p < D.length → q < 3 → (flatBlks D)[p * 3 + q]? = (blkCells (D.getD p blk0))[q]? := by
  induction D with
  | nil => intro p q h; simp at h
  | cons a D ih =>
    intro p q hp hq
    have hl : (blkCells a).length = 3 := rfl
    have hc : flatBlks (a :: D) = blkCells a ++ flatBlks D := by simp [flatBlks]
    rw [hc]
    cases p with
    | zero =>
      rw [List.getElem?_append_left (by omega)]
      simp
    | succ p =>
      rw [List.getElem?_append_right (by omega), hl, show (p + 1) * 3 + q - 3 = p * 3 + q by omega, ih p q (by simpa using hp) hq]
      simp [List.getD]
theorem blkCode_ok (y : Blk) : blkCode y.cs y.cat y.inc = 0 ∧ y.fine = true ∨ blkCode y.cs y.cat y.inc ≠ 0 ∧ y.fine = false := by
  unfold blkCode Blk.fine blkFine
  cases mayB y.cs.length y.cat y.inc <;> cases rangeB y.cs <;> simp

theorem eltBlk : Elt Tryd.prog 41 43 (.agg #[.slice none 0 0, .int .i64 0, .int .i64 0]) 3 40 := ⟨Tryd.underlying41, by kernel_rfl, rfl, by decide⟩

/-- A list of blocks that the call has made, an encoder, a decoder beside it. -/
theorem enc_past_blks {w0 w w' : World} {b tb sb B m : Nat} {ov dv : Value} {e : Enc} {xs : List Value} (h : EncAt w0 w b tb sb ov e) (ho : w.ownsRow B 43 3 dv m xs) (hB : w0.heap.size ≤ B) (hO : Only dv.ownBlock.toList w w') : EncAt w0 w' b tb sb ov e := by
  have hc : ∀ g, dv.ownBlock = some g → ∃ cur, w.heap[g]? = some (.cells cur 43 (0, 0)) := fun g hg => ownsRow_block ho hg
  have hb : ∀ g, dv.ownBlock = some g → B ≤ g := fun g hg => by
    rcases ho.2 with ⟨rfl, _⟩ | ⟨g', cap, cur, rfl, hb, _⟩
    · simp [Value.ownBlock] at hg
    · simp [Value.ownBlock] at hg; subst hg; exact hb
  refine h.only hO (fun i hi => ?_) (fun hi => ?_) (fun hi => ?_) (fun hi => ?_) (fun g hg hi => ?_)
  · exact Nat.le_trans hB (hb i (by simpa using hi))
  · obtain ⟨c, hc⟩ := hc _ (by simpa using hi); exact block_type hc h.is.cells (by decide) rfl
  · obtain ⟨c, hc⟩ := hc _ (by simpa using hi); exact block_type hc h.is.tab (by decide) rfl
  · obtain ⟨c, hc⟩ := hc _ (by simpa using hi); exact block_type hc h.is.sts (by decide) rfl
  · obtain ⟨c, hc⟩ := hc _ (by simpa using hi)
    obtain ⟨c2, hc2⟩ := ownsRow_block h.is.out hg
    exact block_type hc hc2 (by decide) rfl
theorem blks_past_enc {w0 w w' : World} {b tb sb B m : Nat} {ov ov' dv : Value} {e : Enc} {xs : List Value} (ho : w.ownsRow B 43 3 dv m xs) (h : EncAt w0 w b tb sb ov e) (hg : EncGo w w' b sb ov ov') : w'.ownsRow B 43 3 dv m xs := by
  refine ownsRow_of_block ho fun g hgo => ?_
  obtain ⟨c, hc⟩ := ownsRow_block ho hgo
  refine hg.only.block g (lt_of_block hc) ?_
  simp only [List.mem_cons, Option.mem_toList, not_or]
  exact ⟨block_type hc h.is.cells (by decide), block_type hc h.is.sts (by decide), fun hi => by obtain ⟨c2, hc2⟩ := ownsRow_block h.is.out hi; exact block_type hc hc2 (by decide) rfl⟩
theorem blks_past_dec {w0 w w' : World} {b tb sb B m : Nat} {dv : Value} {d : Dec} {xs : List Value} (ho : w.ownsRow B 43 3 dv m xs) (h : DecAt w0 w b tb sb d) (hg : Only [b, sb] w w') : w'.ownsRow B 43 3 dv m xs := by
  refine ownsRow_of_block ho fun g hgo => ?_
  obtain ⟨c, hc⟩ := ownsRow_block ho hgo
  refine hg.block g (lt_of_block hc) ?_
  simp only [List.mem_cons, List.not_mem_nil, or_false, not_or]
  exact ⟨block_type hc h.is.cells (by decide), block_type hc h.is.sts (by decide)⟩
theorem blks_past {w w' : World} {B m : Nat} {dv : Value} {xs : List Value} (ho : w.ownsRow B 43 3 dv m xs) (hg : Only [] w w') : w'.ownsRow B 43 3 dv m xs :=
  ownsRow_of_block ho fun g hgo => by
    obtain ⟨c, hc⟩ := ownsRow_block ho hgo
    exact hg.block g (lt_of_block hc) (by simp)
/-- What came in, in a later world. -/
theorem IntSlice.later {w w' : World} {v : Value} {xs : List Int} (h : IntSlice w v xs) (ho : Only [] w w') : IntSlice w' v xs := h.only ho (by simp)

theorem Read.len {st : List Int} {ops : List Deed} {j : Nat} {d : Dec} (hf : ∀ o ∈ ops, o.fits st.length) (h : Read st ops j d) : d.st.length = st.length := by
  have hl : (Enc.new st).st.length = st.length := by simp [Enc.new, beginOf]
  have h1 := (Enc.new st).live_run (ops.take j) (Enc.live_new st) (fun o ho => by rw [hl]; exact hf o (List.mem_of_mem_take ho))
  rw [h.meets.st, h1.2.1, hl]

set_option maxRecDepth 100000 in
set_option maxHeartbeats 16000000 in
theorem law_sigback (qp : Int) (u : Value) (ys : List Blk) (w : World) (ha : Asc w) (hq0 : -9223372036854775808 ≤ qp) (hq1 : qp ≤ 9223372036854775807) (hu : BlkSlice w u ys) (hl2 : ys.length ≤ 9223372036854775807) :
    Calls Tryd.prog 5 #[.int .i64 qp, u] w fun e w' => e = .returned (.bool true) ∧ Only [] w w' := by
  have Ha := Lib.hid ha
  obtain ⟨bo, cap2, rfl, hd⟩ := hu
  have Hd := Lib.hid hd
  have Hmem : Hid (∀ y ∈ ys, IntSlice w y.u y.cs ∧ y.cs.length ≤ maxLen) := Lib.hid (fun y hy => by
    rcases hd with rfl | ⟨g, off, -, h⟩
    · cases hy
    · obtain ⟨i, hi, rfl⟩ := List.getElem_of_mem hy
      have := h i hi
      rw [show ys.getD i blk0 = ys[i] by simp [List.getD, List.getElem?_eq_getElem hi]] at this
      exact ⟨this.2.2.2.1, this.2.2.2.2⟩)
  clear hd ha
  go_enter Tryd.func5, Tryd.ntmps5
  go_wp2_with fail
  refine (awake8 w Ha.out).mono ?_
  rintro r wa ⟨rfl, ho0⟩
  have Ho0 := Lib.hid ho0
  clear ho0
  go_wp2_with fail
  refine (bins_init qp wa hq0 hq1).mono ?_
  rintro r w1 ⟨g1, rfl, hb1, hg1, ho1⟩
  have Hb1 := Lib.hid (init256 hb1)
  have Ho1 := Lib.hid (Ho0.out.trans ho1)
  clear hb1 ho1 hg1
  go_wp2_with fail
  refine (enc_new (Ha.out.only Ho1.out (by simp)) (Only.refl _ w1) _ (initL qp) Hb1.out (by rw [initL_length]; omega)).mono ?_
  rintro r w2 ⟨b1, t1, s1, rfl, h2, h2o, -, -, -⟩
  have H2 : Hid (EncAt w1 w2 b1 t1 s1 (.slice none 0 0) ((Enc.new (initL qp)).run (blksOps (doneBlks ys 0)))) := Lib.hid h2
  clear h2 h2o
  go_wp2
  obtain ⟨N, hN⟩ : ∃ n, n = min 30 ys.length := ⟨_, rfl⟩
  have hNa : N ≤ 30 := by omega
  have hNb : N ≤ ys.length := by omega
  have HN := Lib.hid hN
  have hlen : (initL qp).length = 256 := initL_length qp
  have Hlen := Lib.hid hlen
  obtain ⟨st, hst⟩ : ∃ st, st = initL qp := ⟨_, rfl⟩
  rw [← hst] at H2 Hlen
  have Hst := Lib.hid hst
  clear hN hlen hst
  have hlive : ∀ j, ((Enc.new st).run (blksOps (doneBlks ys j))).Live ∧ ((Enc.new st).run (blksOps (doneBlks ys j))).st.length = 256 ∧ (j ≤ 30 → ((Enc.new st).run (blksOps (doneBlks ys j))).cost ≤ 1200000) := by
    intro j
    have hl : (Enc.new st).st.length = 256 := by rw [← Hlen.out]; simp [Enc.new, beginOf]
    have h := (Enc.new st).live_run (blksOps (doneBlks ys j)) (Enc.live_new st) (fun o ho => by rw [hl]; exact blksOps_fits _ (doneBlks_fine ys j) o ho)
    refine ⟨h.1, h.2.1.trans hl, fun hj => ?_⟩
    have h1 := blksOps_length (doneBlks ys j) (doneBlks_fine ys j)
    have h2 := doneBlks_length ys j
    have h3 := h.2.2
    have h4 : (Enc.new st).cost = 0 := rfl
    omega
  have Hlive := Lib.hid hlive
  clear hlive
  go_loopw [6, 7] (fun dn i wr => ∃ (j m : Nat) (ov : Value), j ≤ N ∧ i = .int .i64 j ∧ EncAt w1 wr b1 t1 s1 ov ((Enc.new st).run (blksOps (doneBlks ys j))) ∧ Hid (m = (doneBlks ys j).length) ∧ m ≤ j ∧ wr.ownsRow w1.heap.size 43 3 dn m (flatBlks (doneBlks ys j))) (fun _ i _ => N - (intOf i).toNat)
  case atStart => exact ⟨0, 0, _, Nat.zero_le _, rfl, H2.out, Lib.hid rfl, Nat.le_refl _, World.ownsRow_nil _ _ _ _⟩
  case round =>
    obtain ⟨j, m, ov, hj, rfl, k1, hm, hmj, hown⟩ := hrel
    have K1 := Lib.hid k1
    have Hown := Lib.hid hown
    obtain ⟨ao, cp, rfl⟩ : ∃ ao cp, u6 = .slice ao m cp := by
      rcases hown.2 with ⟨rfl, h0⟩ | ⟨g, cap, cur, rfl, _⟩
      · subst h0; exact ⟨_, _, rfl⟩
      · exact ⟨_, _, rfl⟩
    clear k1 hown
    by_cases hlq : j < N
    · rcases Hd.out with hx | ⟨gy, offy, rfl, hcell⟩
      · rw [hx] at hNb; simp at hNb; omega
      have hq1' : j < 30 := by omega
      have hq2 : j < ys.length := by omega
      obtain ⟨a0, a1, a2, a3, a4⟩ := hcell j hq2
      have hcode := blkCode_ok (ys.getD j blk0)
      have hds := doneBlks_step ys j hq2
      have hrc : blkCells (ys.getD j blk0) = [(ys.getD j blk0).u, .int .i64 (ys.getD j blk0).cat, .int .i64 (ys.getD j blk0).inc] := rfl
      have hdd : (ys.getD j blk0).deeds = sigDeeds (ys.getD j blk0).cs (ys.getD j blk0).cat (ys.getD j blk0).inc := rfl
      have hff : (ys.getD j blk0).fine = blkFine (ys.getD j blk0).cs (ys.getD j blk0).cat (ys.getD j blk0).inc := rfl
      obtain ⟨a, haa⟩ : ∃ a, a = ys.getD j blk0 := ⟨_, rfl⟩
      rw [← haa] at a0 a1 a2 a3 a4 hcode hds hrc hdd hff
      obtain ⟨x0, h0⟩ : ∃ k, k = a.u := ⟨_, rfl⟩
      obtain ⟨x1, h1⟩ : ∃ k, k = a.cat := ⟨_, rfl⟩
      obtain ⟨x2, h2⟩ : ∃ k, k = a.inc := ⟨_, rfl⟩
      obtain ⟨cs, h3⟩ : ∃ k, k = a.cs := ⟨_, rfl⟩
      rw [← h0, ← h3] at a3
      obtain ⟨ai, ci, hxi, -⟩ := id a3
      obtain ⟨n, hn⟩ : ∃ n, n = cs.length := ⟨_, rfl⟩
      rw [← hn] at hxi
      subst hxi
      rw [← h0] at a0 hrc
      rw [← h1] at a1 hrc hdd hff hcode
      rw [← h2] at a2 hrc hdd hff hcode
      rw [← h3] at a4 hdd hff hcode
      have I0 := Lib.hid a3
      have c0 := K1.out.on.cell (Ho1.out.cell a0 (by simp)) (by simp)
      have c1 := K1.out.on.cell (Ho1.out.cell a1 (by simp)) (by simp)
      have c2 := K1.out.on.cell (Ho1.out.cell a2 (by simp)) (by simp)
      rw [← Nat.add_assoc] at c1 c2
      have A0 := Lib.hid a0
      have A1 := Lib.hid a1
      have A2 := Lib.hid a2
      have hcost : Hid (((Enc.new st).run (blksOps (doneBlks ys j))).cost < 400000000) := Lib.hid (by have := (Hlive.out j).2.2 (by omega); omega)
      have Hcode := Lib.hid hcode
      have Hds := Lib.hid hds
      have Hrc := Lib.hid hrc
      have Hdd := Lib.hid hdd
      have Hff := Lib.hid hff
      clear hcode hds haa h0 h1 h2 h3 hrc hdd hff hcell a0 a1 a2 a3 a4 hn
      go_wp2
      go_still_tail 16, (by kernel_rfl)
      change wpList _ _ _ _ _ wr.drew
      have K1d := Lib.hid K1.out.drew
      have Hownd := Lib.hid (ownsRow_of_block (w' := wr.drew) Hown.out (fun _ _ => rfl))
      clear c0 c1 c2 K1 Hown
      generalize wr.drew = wd at *
      go_wp2_with fail
      refine (sig_put K1d.out (Hlive.out j).1 (Hlive.out j).2.1 hcost.out _ cs x1 x2 (I0.out.later (Ho1.out.trans K1d.out.on))).mono ?_
      rintro r w5 ⟨rfl, ov2, g1, g2⟩
      rw [← Hff.out, ← Hdd.out] at g1
      have Hown5 := Lib.hid (blks_past_enc Hownd.out K1d.out g2)
      rcases Hcode.out with ⟨hc, hf⟩ | ⟨hc, hf⟩
      · rw [hc]
        rw [hf, if_pos rfl] at g1
        have hds := Hds.out
        rw [hf, if_pos rfl] at hds
        have hrun : ((Enc.new st).run (blksOps (doneBlks ys j))).run a.deeds = (Enc.new st).run (blksOps (doneBlks ys (j + 1))) := by rw [hds, blksOps_snoc, Enc.run_append]
        rw [hrun] at g1
        have K5 := Lib.hid g1
        have Hds2 := Lib.hid hds
        have c0 := K5.out.on.cell (Ho1.out.cell A0.out (by simp)) (by simp)
        have c1 := K5.out.on.cell (Ho1.out.cell A1.out (by simp)) (by simp)
        have c2 := K5.out.on.cell (Ho1.out.cell A2.out (by simp)) (by simp)
        rw [← Nat.add_assoc] at c1 c2
        have hbs := K5.out.on.size
        clear g1 g2 hf hds hrun hc
        go_wp2_with (first
          | (go_at_call 10; refine (num_any _ _).mono ?_; rintro e w' ⟨rfl, rfl⟩)
          | (at_builtin; refine wpList_appendG rfl _ _ rfl eltBlk w1.heap.size _ _ _ rfl (Hown5.out.alloc _) ⟨w5.heap.size, 0, none⟩ 1 1 [.slice ai n ci, .int .i64 x1, .int .i64 x2] rfl rfl (World.news_of_block (cs := #[.slice ai n ci, .int .i64 x1, .int .i64 x2]) (t := 43) (fr := (0, 0)) (heap_alloc_new w5 _)) (by simp [Value.oneCell']) (by decide) (by decide) (by omega) (by simp; omega) ?_))
        intro g6 cap6 w6 hp
        have hp := hp.of_alloc
        have own6 := hp.1
        rw [← Hrc.out, ← flatBlks_snoc, ← Hds2.out] at own6
        have Own6 := Lib.hid own6
        have K6 := Lib.hid (enc_past_blks K5.out Hown5.out (Nat.le_refl _) ((Only.refl _ w5).grown hp.2.1 (fun k hk => .inl (by simp [hk]))))
        have Hm6 : Hid (m + 1 = (doneBlks ys (j + 1)).length) := Lib.hid (by rw [Hds2.out, List.length_append, ← hm.out]; rfl)
        clear hp own6 c0 c1 c2
        go_wp2
        go_roundw
        case rel => exact ⟨j + 1, m + 1, ov2, by omega, by go_num, K6.out, Hm6, by omega, Own6.out⟩
        case measure => simp [intOf] <;> omega
      · rw [hf, if_neg (by decide)] at g1
        have hds := Hds.out
        rw [hf, if_neg (by decide)] at hds
        rw [← hds] at g1 Hown5
        obtain ⟨cc, hcc⟩ : ∃ c, c = blkCode cs x1 x2 := ⟨_, rfl⟩
        rw [← hcc] at hc ⊢
        have hc2 : (cc == 0) = false := by simpa using hc
        have K5 := Lib.hid g1
        have Hm6 : Hid (m = (doneBlks ys (j + 1)).length) := Lib.hid (by rw [hds, ← hm.out])
        clear g1 g2 hf hds hcc hc
        go_wp2_with (first | (go_at_call 10; refine (num_any _ _).mono ?_; rintro e w' ⟨rfl, rfl⟩))
        go_roundw
        case rel => exact ⟨j + 1, m, ov2, by omega, by go_num, K5.out, Hm6, by omega, Hown5.out⟩
        case measure => simp [intOf] <;> omega
    · obtain rfl : j = N := by omega
      have hend3 : (ys.length ≤ j) ∨ (j = 30 ∧ j < ys.length) := by have := HN.out; omega
      have hfine := doneBlks_fine ys j
      have hin := doneBlks_mem ys j
      have hDl := doneBlks_length ys j
      obtain ⟨hlv1, hlv2, hlv3⟩ := Hlive.out j
      have hlv3 := hlv3 (by omega)
      obtain ⟨D, hD⟩ : ∃ D, D = doneBlks ys j := ⟨_, rfl⟩
      rw [← hD] at hfine hDl hlv1 hlv3 K1 Hown hm hin
      obtain ⟨ops, hops⟩ : ∃ o, o = blksOps D := ⟨_, rfl⟩
      have hof : ∀ o ∈ ops, o.fits st.length := by rw [hops, Hlen.out]; exact blksOps_fits D hfine
      rw [← hops] at hlv1 hlv3 K1
      obtain ⟨z1, z2, z3, z4⟩ := Read.begins st ops hof
      have hbc : beginCode ((Enc.new st).run ops).text = 0 := by unfold beginCode; rw [if_neg z2, if_neg z3]
      have hsz := ((Enc.new st).run ops).text_size hlv1
      have hstp : ((Enc.new st).run ops).steps ≤ 1200001 := by
        have h4 : ((Enc.new st).run ops).steps ≤ ((Enc.new st).run ops).cost + 1 := by
          unfold Enc.cost Enc.steps
          split <;> omega
        omega
      obtain ⟨S, hS⟩ : ∃ S, S = ((Enc.new st).run ops).text := ⟨_, rfl⟩
      rw [← hS] at z4 hbc hsz
      have hsmall : S.size ≤ 200000 := by omega
      have HS := Lib.hid hS
      have Hz4 : Hid (Read st ops (blksOps (D.take 0)).length (Dec.begin S st)) := Lib.hid z4
      have Hbc := Lib.hid hbc
      have Hcost := Lib.hid hlv3
      have Hof := Lib.hid hof
      have Hops := Lib.hid hops
      have Hfine := Lib.hid hfine
      have Hin := Lib.hid hin
      have hmD : m ≤ 30 := by omega
      clear z1 z2 z3 z4 hS hbc hsz hstp hlv1 hlv2 hlv3 hof hops hfine hD hDl hin
      rcases hend3 with hend3 | ⟨hend3, hend4⟩
      all_goals
        go_wp2_with fail
        refine (K1.out.term 1 (by have := Hcost.out; omega)).mono ?_
        rintro r w3 ⟨rfl, ov2, g1, g2⟩
        have Own3 := Lib.hid (blks_past_enc Hown.out K1.out g2)
        have G1 := Lib.hid g1
        clear g1 g2
        go_wp2_with fail
        refine (G1.out.bytes).mono ?_
        rintro r w4 ⟨rfl, rfl⟩
        rw [show strOfNums (packed (((Enc.new st).run ops).term 1).bits) = S from HS.out.symm]
        go_wp2_with fail
        refine (bins_init qp w3 hq0 hq1).mono ?_
        rintro r w4 ⟨g4, rfl, hb4, hg4, ho4⟩
        have Hi4 := Lib.hid (init256 hb4)
        rw [← Hst.out] at Hi4
        have Ho4 := Lib.hid (G1.out.on.trans ho4)
        have Own4 := Lib.hid (blks_past Own3.out ho4)
        clear hb4 hg4 ho4
        go_wp2_with fail
        refine (dec_new (Ha.out.only Ho1.out (by simp)) Ho4.out S _ st Hi4.out (by rw [Hlen.out]; omega) (by omega)).mono ?_
        rintro r w5 ⟨b2, t2, s2, rfl, g1, g2, -, -, -⟩
        have hp : beginPtr S b2 = .pointer (some ⟨b2, 0, none⟩) := by unfold beginPtr; rw [Hbc.out, if_pos rfl]
        rw [hp, Hbc.out]
        have D0 := Lib.hid (g1 Hbc.out)
        have Own5 := Lib.hid (blks_past Own4.out g2)
        have Hst0 : Hid ((Dec.begin S st).st.length = 256) := Lib.hid (by rw [← Hlen.out]; simp [Dec.begin, beginOf])
        clear g1 g2 hp
        go_wp2_with (first | (go_at_call 10; refine (num_any _ _).mono ?_; rintro e w' ⟨rfl, rfl⟩))
        go_loopw [11] (fun i wr => ∃ (p : Nat) (d : Dec), p ≤ m ∧ i = .int .i64 p ∧ DecAt w1 wr b2 t2 s2 d ∧ Hid (Read st ops (blksOps (D.take p)).length d) ∧ Hid (d.st.length = 256) ∧ wr.ownsRow w1.heap.size 43 3 (.slice ao m cp) m (flatBlks D)) (fun i _ => m - (intOf i).toNat)
        case atStart => exact ⟨0, _, Nat.zero_le _, rfl, D0.out, Hz4, Hst0, Own5.out⟩
        case round =>
          obtain ⟨p, d, hp, rfl, k1, k3, k4, own⟩ := hrel
          have hds : d.s.size ≤ 200000 := by rw [k3.out.text, ← HS.out]; exact hsmall
          have K2 := Lib.hid k1
          have Own := Lib.hid own
          by_cases hlp : p < m
          · obtain ⟨g, cap, hv, -, -⟩ := own.form (by omega)
            have hpD : p < D.length := by rw [← hm.out]; exact hlp
            obtain ⟨rfl⟩ : ao = some ⟨g, 0, none⟩ := by injection hv
            have hcells : ∀ q, q < 3 → wr.cell? ⟨g, p * 3 + q, none⟩ = (blkCells (D.getD p blk0))[q]? := by
              intro q hq
              have h1 := flatBlks_at D p q hpD hq
              obtain ⟨y, hy⟩ : ∃ y, (blkCells (D.getD p blk0))[q]? = some y := ⟨_, List.getElem?_eq_getElem (show q < (blkCells (D.getD p blk0)).length from hq)⟩
              have := own.cells (g := g) rfl _ _ (h1.trans hy)
              rw [Addr.add_lit, Nat.zero_add] at this
              rw [this, hy]
            have hgm : D.getD p blk0 ∈ D := by
              have : D.getD p blk0 = D[p] := by simp [List.getD, List.getElem?_eq_getElem hpD]
              rw [this]
              exact List.getElem_mem hpD
            have hfa : (D.getD p blk0).fine = true := Hfine.out _ hgm
            obtain ⟨a3, -⟩ := Hmem.out _ (Hin.out _ hgm)
            obtain ⟨hs1, hs2⟩ := blksOps_split D p hpD
            rw [← Hops.out] at hs1
            obtain ⟨d', hgv, hrd⟩ := Read.gives st ops (D.getD p blk0).deeds Hof.out _ d _ k3.out hs1
            rw [← hs2] at hrd
            have c0 : wr.cell? ⟨g, p * 3 + 0, none⟩ = some (D.getD p blk0).u := hcells 0 (by omega)
            have c1 : wr.cell? ⟨g, p * 3 + 1, none⟩ = some (.int .i64 (D.getD p blk0).cat) := hcells 1 (by omega)
            have c2 : wr.cell? ⟨g, p * 3 + 2, none⟩ = some (.int .i64 (D.getD p blk0).inc) := hcells 2 (by omega)
            obtain ⟨a, haa⟩ : ∃ a, a = D.getD p blk0 := ⟨_, rfl⟩
            rw [← haa] at c0 c1 c2 hfa a3 hgv
            obtain ⟨hmy, hrg⟩ := Blk.spec hfa
            have hgv : d.gives (sigDeeds a.cs a.cat a.inc) d' := hgv
            obtain ⟨x0, h0⟩ : ∃ k, k = a.u := ⟨_, rfl⟩
            obtain ⟨x1, h1⟩ : ∃ k, k = a.cat := ⟨_, rfl⟩
            obtain ⟨x2, h2⟩ : ∃ k, k = a.inc := ⟨_, rfl⟩
            obtain ⟨cs, h3⟩ : ∃ k, k = a.cs := ⟨_, rfl⟩
            rw [← h0, ← h3] at a3
            rw [← h0, Nat.add_zero] at c0
            rw [← h1] at c1 hgv hmy
            rw [← h2] at c2 hgv hmy
            rw [← h3] at hgv hmy hrg
            obtain ⟨ai, ci, hxi, -⟩ := id a3
            have hn16 : cs.length ≤ 16 := by have := (mayB_spec hmy).1; omega
            have hdst : d'.st.length = 256 := by rw [Read.len Hof.out hrd]; exact Hlen.out
            obtain ⟨n, hn⟩ : ∃ n, n = cs.length := ⟨_, rfl⟩
            have hget := sig_get (K2.out.drewN 1) cs x1 x2 hmy hrg hgv (by omega) k4.out
            rw [← hn] at hxi hget
            subst hxi
            have Hget := Lib.hid hget
            have I3 := Lib.hid a3
            have Hrd := Lib.hid hrd
            have Hdst := Lib.hid hdst
            have Hn16 := Lib.hid hn16
            clear hcells hfa hgv hrd hs1 hs2 h0 h1 h2 h3 k1 own k3 hv hpD hgm a3 haa hmy hrg hn hget hdst hn16
            have hgn : g ∉ [b2, s2] := by
              obtain ⟨c, hc⟩ := ownsRow_block Own.out (g := g) rfl
              simp only [List.mem_cons, List.not_mem_nil, or_false, not_or]
              exact ⟨block_type hc K2.out.is.cells (by decide), block_type hc K2.out.is.sts (by decide)⟩
            have K2d : Hid (DecAt w1 wr.drew b2 t2 s2 d) := Lib.hid (K2.out.drewN 1)
            have Ownd := Lib.hid (ownsRow_of_block (w' := wr.drew) Own.out (fun _ _ => rfl))
            go_wp2
            go_region_held3 (fun w' => w'.cell? ⟨g, p * 3, none⟩ = some (.slice ai n ci) ∧ w'.cell? ⟨g, p * 3 + 1, none⟩ = some (.int .i64 x1) ∧ w'.cell? ⟨g, p * 3 + 2, none⟩ = some (.int .i64 x2)) (first | exact ⟨c0, c1, c2⟩ | exact ⟨d0, d1, d2⟩ | go_keep | assumption)
              ((first | (go_at_call 14; refine Hget.out.mono ?_; rintro r w6 ⟨g6, cap6, rfl, g0, g1, g2⟩; have I6 := Lib.hid g0; have K6 := Lib.hid g1; have Own6 := Lib.hid (blks_past_dec Ownd.out K2d.out g2); have d0 := g2.cell (w := wr.drew) c0 hgn; have d1 := g2.cell (w := wr.drew) c1 hgn; have d2 := g2.cell (w := wr.drew) c2 hgn; clear g0 g1 g2)))
            have e0 := d0
            clear c0 c1 c2 d0 d1 d2 hgn K2 Own
            have I7 := Lib.hid (I3.out.later (Ho1.out.trans K6.out.on))
            go_wp2_with (first
              | (go_at_call 10; refine (num_any _ _).mono ?_; rintro e w' ⟨rfl, rfl⟩))
            refine (same_ints _ _ cs cs _ I6.out I7.out (by have := Hn16.out; omega) (by have := Hn16.out; omega)).mono ?_
            rintro r w8 ⟨rfl, g1⟩
            rw [decide_eq_true (show cs = cs from rfl)]
            have K8 := Lib.hid (K6.out.only g1 (by simp) (by simp) (by simp) (by simp))
            have Own8 := Lib.hid (blks_past Own6.out g1)
            clear g1
            go_wp2
            go_roundw
            case rel => exact ⟨p + 1, d', by omega, by go_num, K8.out, Hrd, Hdst, Own8.out⟩
            case measure => simp [intOf] <;> omega
          · obtain rfl : p = m := by omega
            have hrd : Read st ops ops.length d := by
              have := k3.out
              rw [hm.out, List.take_length, ← Hops.out] at this
              exact this
            obtain ⟨e1, -, -, -⟩ := Read.ends st ops d Hof.out hrd
            have E1 := Lib.hid e1
            clear hrd e1 k1 own
            go_wp2_with fail
            refine (K2.out.term (by omega)).mono ?_
            rintro r w6 ⟨rfl, g1, -⟩
            rw [E1.out] at g1 ⊢
            have G6 := Lib.hid g1.on
            clear g1
            go_wp2_with (first | (go_at_call 10; refine (num_any _ _).mono ?_; rintro e w' ⟨rfl, rfl⟩))
            go_ret
            exact ⟨rfl, Ho1.out.trans G6.out⟩
end Go.Proofs.YtgmnkihldlajcaaDoor
