/-
  BinsBack: elements come back as they were.
-/
import Derived.Test.YtibojidpifgblaaDoorGetC
import Derived.Test.YtibojidpifgblaaDoorPutA
import Derived.Test.YtibojidpifgblaaDoorLawByp
import Derived.Test.YtibojidpifgblaaDoorDoor2
import Derived.Test.YtibojidpifgblaaDoorHold2
import Derived.Test.YtibojidpifgblaaDoorLaw6Awake
namespace Go.Proofs.YtibojidpifgblaaDoor
open Go.RowKit

/-- A row as an element; may it be; its acts. -/
def fineRow (a : List Int) : Bool := decide (bitsE (a.getD 0 0) (a.getD 2 0) (a.getD 3 0) = 0 ∧ 0 ≤ a.getD 1 0 ∧ a.getD 1 0 ≤ 7)
def rowDeeds (a : List Int) : List Deed := elemDeeds (a.getD 0 0) (a.getD 1 0) (a.getD 2 0) (a.getD 3 0)
def doneRows (ys : List (List Int)) (j : Nat) : List (List Int) := (ys.take j).filter fineRow
def rowsOps (D : List (List Int)) : List Deed := D.flatMap rowDeeds
theorem doneRows_fine (ys : List (List Int)) (j : Nat) : ∀ a ∈ doneRows ys j, fineRow a = true := fun _ h => (List.mem_filter.1 h).2
theorem doneRows_length (ys : List (List Int)) (j : Nat) : (doneRows ys j).length ≤ j := by
  have := List.length_filter_le fineRow (ys.take j)
  have := List.length_take_le j ys
  unfold doneRows
  omega
theorem doneRows_step (ys : List (List Int)) (j : Nat) (h : j < ys.length) : doneRows ys (j + 1) = if fineRow (ys.getD j []) then doneRows ys j ++ [ys.getD j []] else doneRows ys j := by
  unfold doneRows
  have he : ys.getD j [] = ys[j] := by simp [List.getD, List.getElem?_eq_getElem h]
  rw [List.take_add_one, List.getElem?_eq_getElem h, List.filter_append, he]
  by_cases hf : fineRow ys[j] = true <;> simp [hf]
theorem rowDeeds_fits (a : List Int) (h : fineRow a = true) : ∀ o ∈ rowDeeds a, o.fits 256 := by
  unfold fineRow at h
  rw [decide_eq_true_eq] at h
  obtain ⟨e0, e1, -⟩ := bitsE_el _ _ _ h.1
  exact deedsL_fits _ _ _ e0 e1 h.2.1 0 (bitsL_letter _ _ _)
theorem rowDeeds_length (a : List Int) : (rowDeeds a).length ≤ 100 := by
  unfold rowDeeds elemDeeds
  rw [deedsL_length]
  exact bitsL_length _ _ _
theorem rowsOps_fits (D : List (List Int)) (h : ∀ a ∈ D, fineRow a = true) : ∀ o ∈ rowsOps D, o.fits 256 := by
  intro o ho
  obtain ⟨a, ha, hoa⟩ := List.mem_flatMap.1 ho
  exact rowDeeds_fits a (h a ha) o hoa
theorem rowsOps_length (D : List (List Int)) : (rowsOps D).length ≤ 100 * D.length := by
  induction D with
  | nil => simp [rowsOps]
  | cons a D ih =>
    have h1 := rowDeeds_length a
    have h2 : (rowsOps (a :: D)).length = (rowDeeds a).length + (rowsOps D).length := by simp [rowsOps]
    rw [h2, List.length_cons]
    omega
theorem rowsOps_snoc (D : List (List Int)) (a : List Int) : rowsOps (D ++ [a]) = rowsOps D ++ rowDeeds a := by simp [rowsOps]
theorem rowsOps_split (D : List (List Int)) (p : Nat) (h : p < D.length) : (rowsOps D).drop (rowsOps (D.take p)).length = rowDeeds (D.getD p []) ++ rowsOps (D.drop (p + 1)) ∧ (rowsOps (D.take (p + 1))).length = (rowsOps (D.take p)).length + (rowDeeds (D.getD p [])).length := by
  have he : D.getD p [] = D[p] := by simp [List.getD, List.getElem?_eq_getElem h]
  have h1 : rowsOps D = rowsOps (D.take p) ++ (rowDeeds (D.getD p []) ++ rowsOps (D.drop (p + 1))) := by
    have h2 : D = D.take p ++ (D.getD p [] :: D.drop (p + 1)) := by
      rw [he, ← List.drop_eq_getElem_cons h, List.take_append_drop]
    have h3 : rowsOps (D.take p ++ (D.getD p [] :: D.drop (p + 1))) = rowsOps (D.take p) ++ (rowDeeds (D.getD p []) ++ rowsOps (D.drop (p + 1))) := by simp [rowsOps]
    rw [← h3, ← h2]
  constructor
  · rw [h1, List.drop_left]
  · rw [List.take_add_one, List.getElem?_eq_getElem h, he]
    show (rowsOps (D.take p ++ [D[p]])).length = _
    rw [rowsOps_snoc, List.length_append]
theorem elem_row (e : Enc) (a : List Int) (h : e.Live) (hst : e.st.length = 256) :
    e.elem (a.getD 0 0) (a.getD 1 0) (a.getD 2 0) (a.getD 3 0) = if fineRow a then (0, e.run (rowDeeds a)) else (600, e) := by
  rw [e.elem_live _ _ _ _ h hst]
  unfold fineRow
  by_cases hc : bitsE (a.getD 0 0) (a.getD 2 0) (a.getD 3 0) = 0 ∧ 0 ≤ a.getD 1 0 ∧ a.getD 1 0 ≤ 7
  · rw [if_pos hc, if_pos (by simpa using hc)]; rfl
  · rw [if_neg hc, if_neg (by simpa using hc)]
/-- The cells of such rows. -/
def rowCells (a : List Int) : List Value := [.int .i64 (a.getD 0 0), .int .i64 (a.getD 1 0), .int .i64 (a.getD 2 0), .int .i64 (a.getD 3 0)]
def flatRows (D : List (List Int)) : List Value := D.flatMap rowCells
theorem flatRows_length (D : List (List Int)) : (flatRows D).length = D.length * 4 := by
  induction D with
  | nil => rfl
  | cons a D ih =>
    have h : flatRows (a :: D) = rowCells a ++ flatRows D := by simp [flatRows]
    have h4 : (rowCells a).length = 4 := rfl
    rw [h, List.length_append, ih, List.length_cons, h4]
    omega
theorem flatRows_snoc (D : List (List Int)) (a : List Int) : flatRows (D ++ [a]) = flatRows D ++ rowCells a := by simp [flatRows]
theorem flatRows_at (D : List (List Int)) : ∀ (p q : Nat), p < D.length → q < 4 → (flatRows D)[p * 4 + q]? = some (.int .i64 ((D.getD p []).getD q 0)) := by
  induction D with
  | nil => intro p q h; simp at h
  | cons a D ih =>
    intro p q hp hq
    have hl : (rowCells a).length = 4 := rfl
    have hc : flatRows (a :: D) = rowCells a ++ flatRows D := by simp [flatRows]
    rw [hc]
    cases p with
    | zero =>
      rw [List.getElem?_append_left (by omega)]
      match q, hq with
      | 0, _ => simp [rowCells]
      | 1, _ => simp [rowCells]
      | 2, _ => simp [rowCells]
      | 3, _ => simp [rowCells]
    | succ p =>
      rw [List.getElem?_append_right (by omega), hl, show (p + 1) * 4 + q - 4 = p * 4 + q by omega, ih p q (by simpa using hp) hq]
      simp [List.getD]

theorem eltAct : Elt Tryd.prog 56 59 (.agg #[.int .i64 0, .int .i64 0, .int .i64 0, .int .i64 0]) 4 32 := ⟨Tryd.underlying56, by kernel_rfl, rfl, by decide⟩

/-- A list of rows that the call has made, an encoder, a decoder beside it. -/
theorem enc_past_rows {w0 w w' : World} {b tb sb B m : Nat} {ov dv : Value} {e : Enc} {xs : List Value} (h : EncAt w0 w b tb sb ov e) (ho : w.ownsRow B 59 4 dv m xs) (hB : w0.heap.size ≤ B) (hO : Only dv.ownBlock.toList w w') : EncAt w0 w' b tb sb ov e := by
  have hc : ∀ g, dv.ownBlock = some g → ∃ cur, w.heap[g]? = some (.cells cur 59 (0, 0)) := fun g hg => ownsRow_block ho hg
  have hb : ∀ g, dv.ownBlock = some g → B ≤ g := fun g hg => by
    rcases ho.2 with ⟨rfl, _⟩ | ⟨g', cap, cur, rfl, hb, _⟩
    · simp [Value.ownBlock] at hg
    · simp [Value.ownBlock] at hg; subst hg; exact hb
  refine h.only hO (fun i hi => ?_) (fun hi => ?_) (fun hi => ?_) (fun hi => ?_) (fun g hg hi => ?_)
  · exact Nat.le_trans hB (hb i (by simpa using hi))
  · obtain ⟨c, hc⟩ := hc _ (by simpa using hi); exact block_type hc h.is.cells (by decide) rfl
  · obtain ⟨c, hc⟩ := hc _ (by simpa using hi); exact block_type hc h.is.tab (by decide) rfl
  · obtain ⟨c, hc⟩ := hc _ (by simpa using hi); exact block_type hc h.is.sts (by decide) rfl
  · obtain ⟨c, hc⟩ := hc _ (by simpa using hi)
    obtain ⟨c2, hc2⟩ := ownsRow_block h.is.out hg
    exact block_type hc hc2 (by decide) rfl
theorem rows_past_enc {w0 w w' : World} {b tb sb B m : Nat} {ov ov' dv : Value} {e : Enc} {xs : List Value} (ho : w.ownsRow B 59 4 dv m xs) (h : EncAt w0 w b tb sb ov e) (hg : EncGo w w' b sb ov ov') : w'.ownsRow B 59 4 dv m xs := by
  refine ownsRow_of_block ho fun g hgo => ?_
  obtain ⟨c, hc⟩ := ownsRow_block ho hgo
  refine hg.only.block g (lt_of_block hc) ?_
  simp only [List.mem_cons, Option.mem_toList, not_or]
  exact ⟨block_type hc h.is.cells (by decide), block_type hc h.is.sts (by decide), fun hi => by obtain ⟨c2, hc2⟩ := ownsRow_block h.is.out hi; exact block_type hc hc2 (by decide) rfl⟩
theorem rows_past_dec {w0 w w' : World} {b tb sb B m : Nat} {dv : Value} {d : Dec} {xs : List Value} (ho : w.ownsRow B 59 4 dv m xs) (h : DecAt w0 w b tb sb d) (hg : Only [b, sb] w w') : w'.ownsRow B 59 4 dv m xs := by
  refine ownsRow_of_block ho fun g hgo => ?_
  obtain ⟨c, hc⟩ := ownsRow_block ho hgo
  refine hg.block g (lt_of_block hc) ?_
  simp only [List.mem_cons, List.not_mem_nil, or_false, not_or]
  exact ⟨block_type hc h.is.cells (by decide), block_type hc h.is.sts (by decide)⟩
theorem rows_past {w w' : World} {B m : Nat} {dv : Value} {xs : List Value} (ho : w.ownsRow B 59 4 dv m xs) (hg : Only [] w w') : w'.ownsRow B 59 4 dv m xs :=
  ownsRow_of_block ho fun g hgo => by
    obtain ⟨c, hc⟩ := ownsRow_block ho hgo
    exact hg.block g (lt_of_block hc) (by simp)

set_option maxRecDepth 100000 in
set_option maxHeartbeats 16000000 in
theorem law_binsback (qp : Int) (u : Value) (ys : List (List Int)) (w : World) (ha : Asc w) (hq0 : -9223372036854775808 ≤ qp) (hq1 : qp ≤ 9223372036854775807) (hu : RowSlice w 4 u ys) (hl2 : ys.length ≤ 9223372036854775807) :
    Calls Tryd.prog 11 #[.int .i64 qp, u] w fun e w' => e = .returned (.bool true) ∧ Only [] w w' := by
  have Ha := Lib.hid ha
  obtain ⟨bo, cap2, rfl, hd⟩ := hu
  have Hd := Lib.hid hd
  clear hd ha
  go_enter Tryd.func11, Tryd.ntmps11
  go_wp2_with fail
  refine (awake6 w).mono ?_
  rintro r wa ⟨rfl, ho0⟩
  have Ho0 := Lib.hid ho0
  clear ho0
  go_wp2_with fail
  refine (bins_init qp wa hq0 hq1).mono ?_
  rintro r w1 ⟨g1, rfl, hb1, hg1, ho1⟩
  have Hb1 := Lib.hid (init_slice hb1)
  have Ho1 := Lib.hid (Ho0.out.trans ho1)
  clear hb1 ho1 hg1
  go_wp2_with fail
  refine (enc_new (Ha.out.only Ho1.out (by simp)) (Only.refl _ w1) _ (initL qp) Hb1.out (by rw [initL_length]; omega)).mono ?_
  rintro r w2 ⟨b1, t1, s1, rfl, h2, h2o, -, -, -⟩
  have H2 : Hid (EncAt w1 w2 b1 t1 s1 (.slice none 0 0) ((Enc.new (initL qp)).run (rowsOps (doneRows ys 0)))) := Lib.hid h2
  clear h2 h2o
  go_wp2
  obtain ⟨N, hN⟩ : ∃ n, n = min 100 ys.length := ⟨_, rfl⟩
  have hNa : N ≤ 100 := by omega
  have hNb : N ≤ ys.length := by omega
  have HN := Lib.hid hN
  have hlen : (initL qp).length = 256 := initL_length qp
  have Hlen := Lib.hid hlen
  obtain ⟨st, hst⟩ : ∃ st, st = initL qp := ⟨_, rfl⟩
  rw [← hst] at H2 Hlen
  have Hst := Lib.hid hst
  clear hN hlen hst
  have hlive : ∀ j, ((Enc.new st).run (rowsOps (doneRows ys j))).Live ∧ ((Enc.new st).run (rowsOps (doneRows ys j))).st.length = 256 ∧ (j ≤ 100 → ((Enc.new st).run (rowsOps (doneRows ys j))).cost ≤ 80000) := by
    intro j
    have hl : (Enc.new st).st.length = 256 := by rw [← Hlen.out]; simp [Enc.new, beginOf]
    have h := (Enc.new st).live_run (rowsOps (doneRows ys j)) (Enc.live_new st) (fun o ho => by rw [hl]; exact rowsOps_fits _ (doneRows_fine ys j) o ho)
    refine ⟨h.1, h.2.1.trans hl, fun hj => ?_⟩
    have h1 := rowsOps_length (doneRows ys j)
    have h2 := doneRows_length ys j
    have h3 := h.2.2
    have h4 : (Enc.new st).cost = 0 := rfl
    omega
  have Hlive := Lib.hid hlive
  clear hlive
  go_loopw [6, 7] (fun dn i wr => ∃ (j m : Nat) (ov : Value), j ≤ N ∧ i = .int .i64 j ∧ EncAt w1 wr b1 t1 s1 ov ((Enc.new st).run (rowsOps (doneRows ys j))) ∧ Hid (m = (doneRows ys j).length) ∧ m ≤ j ∧ wr.ownsRow w1.heap.size 59 4 dn m (flatRows (doneRows ys j))) (fun _ i _ => N - (intOf i).toNat)
  case atStart => exact ⟨0, 0, _, Nat.zero_le _, rfl, H2.out, Lib.hid rfl, Nat.le_refl _, World.ownsRow_nil _ _ _ _⟩
  case round =>
    obtain ⟨j, m, ov, hj, rfl, k1, hm, hmj, hown⟩ := hrel
    have K1 := Lib.hid k1
    have Hown := Lib.hid hown
    obtain ⟨ao, cp, rfl⟩ : ∃ ao cp, u6 = .slice ao m cp := by
      rcases hown.2 with ⟨rfl, h0⟩ | ⟨g, cap, cur, rfl, _⟩
      · subst h0; exact ⟨_, _, rfl⟩
      · exact ⟨_, _, rfl⟩
    clear k1 hown
    by_cases hlq : j < N
    · rcases Hd.out with hx | ⟨gy, offy, rfl, hcell⟩
      · rw [hx] at hNb; simp at hNb; omega
      have hq1' : j < 100 := by omega
      have hq2 : j < ys.length := by omega
      have c0 := K1.out.on.cell (Ho1.out.cell (hcell j 0 hq2 (by omega)) (by simp)) (by simp)
      have c1 := K1.out.on.cell (Ho1.out.cell (hcell j 1 hq2 (by omega)) (by simp)) (by simp)
      have c2 := K1.out.on.cell (Ho1.out.cell (hcell j 2 hq2 (by omega)) (by simp)) (by simp)
      have c3 := K1.out.on.cell (Ho1.out.cell (hcell j 3 hq2 (by omega)) (by simp)) (by simp)
      have hel := elem_row ((Enc.new st).run (rowsOps (doneRows ys j))) (ys.getD j []) (Hlive.out j).1 (Hlive.out j).2.1
      have hds := doneRows_step ys j hq2
      obtain ⟨a, haa⟩ : ∃ a, a = ys.getD j [] := ⟨_, rfl⟩
      rw [← haa] at c0 c1 c2 c3 hel hds
      obtain ⟨x0, h0⟩ : ∃ k, k = a.getD 0 0 := ⟨_, rfl⟩
      obtain ⟨x1, h1⟩ : ∃ k, k = a.getD 1 0 := ⟨_, rfl⟩
      obtain ⟨x2, h2⟩ : ∃ k, k = a.getD 2 0 := ⟨_, rfl⟩
      obtain ⟨x3, h3⟩ : ∃ k, k = a.getD 3 0 := ⟨_, rfl⟩
      have Hx0 : Hid (x0 = (ys.getD j []).getD 0 0) := Lib.hid (by rw [h0, haa])
      have Hx1 : Hid (x1 = (ys.getD j []).getD 1 0) := Lib.hid (by rw [h1, haa])
      have Hx2 : Hid (x2 = (ys.getD j []).getD 2 0) := Lib.hid (by rw [h2, haa])
      have Hx3 : Hid (x3 = (ys.getD j []).getD 3 0) := Lib.hid (by rw [h3, haa])
      have hrc : rowCells a = [.int .i64 x0, .int .i64 x1, .int .i64 x2, .int .i64 x3] := by unfold rowCells; rw [← h0, ← h1, ← h2, ← h3]
      rw [← h0, ← h1, ← h2, ← h3] at hel
      rw [← h0, Nat.add_zero] at c0
      rw [← h1, ← Nat.add_assoc] at c1
      rw [← h2, ← Nat.add_assoc] at c2
      rw [← h3, ← Nat.add_assoc] at c3
      have hcost : Hid (((Enc.new st).run (rowsOps (doneRows ys j))).cost < 600000000) := Lib.hid (by have := (Hlive.out j).2.2 (by omega); omega)
      have Hel := Lib.hid hel
      have Hds := Lib.hid hds
      have Hrc := Lib.hid hrc
      clear hel hds haa h0 h1 h2 h3 hrc
      have Hcell := Lib.hid hcell
      clear hcell
      go_wp2
      go_still_tail 21, (by kernel_rfl)
      change wpList _ _ _ _ _ wr.drew
      have K1d := Lib.hid K1.out.drew
      have Hownd := Lib.hid (ownsRow_of_block (w' := wr.drew) Hown.out (fun _ _ => rfl))
      clear c0 c1 c2 c3 K1 Hown
      generalize wr.drew = wd at *
      go_wp2_with fail
      refine (bins_put K1d.out hcost.out x0 x1 x2 x3).mono ?_
      rintro r w5 ⟨rfl, ov2, g1, g2⟩
      rw [Hel.out] at g1 ⊢
      have Hown5 := Lib.hid (rows_past_enc Hownd.out K1d.out g2)
      by_cases hf : fineRow a = true
      · rw [if_pos hf] at g1 ⊢
        have hds := Hds.out
        rw [if_pos hf] at hds
        have hrun : ((Enc.new st).run (rowsOps (doneRows ys j))).run (rowDeeds a) = (Enc.new st).run (rowsOps (doneRows ys (j + 1))) := by rw [hds, rowsOps_snoc, Enc.run_append]
        rw [hrun] at g1
        have K5 := Lib.hid g1
        have Hds2 := Lib.hid hds
        have c0 := K5.out.on.cell (Ho1.out.cell (Hcell.out j 0 hq2 (by omega)) (by simp)) (by simp)
        have c1 := K5.out.on.cell (Ho1.out.cell (Hcell.out j 1 hq2 (by omega)) (by simp)) (by simp)
        have c2 := K5.out.on.cell (Ho1.out.cell (Hcell.out j 2 hq2 (by omega)) (by simp)) (by simp)
        have c3 := K5.out.on.cell (Ho1.out.cell (Hcell.out j 3 hq2 (by omega)) (by simp)) (by simp)
        rw [← Hx0.out, Nat.add_zero] at c0
        rw [← Hx1.out, ← Nat.add_assoc] at c1
        rw [← Hx2.out, ← Nat.add_assoc] at c2
        rw [← Hx3.out, ← Nat.add_assoc] at c3
        have hbs := K5.out.on.size
        clear g1 g2 hf hds hrun
        go_wp2_with (first
          | (go_at_call 21; refine (num_any _ _).mono ?_; rintro e w' ⟨rfl, rfl⟩)
          | (at_builtin; refine wpList_appendG rfl _ _ rfl eltAct w1.heap.size _ _ _ rfl (Hown5.out.alloc _) ⟨w5.heap.size, 0, none⟩ 1 1 [.int .i64 x0, .int .i64 x1, .int .i64 x2, .int .i64 x3] rfl rfl (World.news_of_block (cs := #[.int .i64 x0, .int .i64 x1, .int .i64 x2, .int .i64 x3]) (t := 59) (fr := (0, 0)) (heap_alloc_new w5 _)) (by simp [Value.oneCell']) (by decide) (by decide) (by omega) (by simp; omega) ?_))
        intro g6 cap6 w6 hp
        have hp := hp.of_alloc
        have own6 := hp.1
        rw [← Hrc.out, ← flatRows_snoc, ← Hds2.out] at own6
        have Own6 := Lib.hid own6
        have K6 := Lib.hid (enc_past_rows K5.out Hown5.out (Nat.le_refl _) ((Only.refl _ w5).grown hp.2.1 (fun k hk => .inl (by simp [hk]))))
        have Hm6 : Hid (m + 1 = (doneRows ys (j + 1)).length) := Lib.hid (by rw [Hds2.out, List.length_append, ← hm.out]; rfl)
        clear hp own6 c0 c1 c2 c3
        go_wp2
        go_roundw
        case rel => exact ⟨j + 1, m + 1, ov2, by omega, by go_num, K6.out, Hm6, by omega, Own6.out⟩
        case measure => simp [intOf] <;> omega
      · rw [if_neg hf] at g1 ⊢
        have hds := Hds.out
        rw [if_neg hf] at hds
        rw [← hds] at g1 Hown5
        have K5 := Lib.hid g1
        have Hm6 : Hid (m = (doneRows ys (j + 1)).length) := Lib.hid (by rw [hds, ← hm.out])
        clear g1 g2 hf hds
        go_wp2_with (first | (go_at_call 21; refine (num_any _ _).mono ?_; rintro e w' ⟨rfl, rfl⟩))
        go_roundw
        case rel => exact ⟨j + 1, m, ov2, by omega, by go_num, K5.out, Hm6, by omega, Hown5.out⟩
        case measure => simp [intOf] <;> omega
    · obtain rfl : j = N := by omega
      have hend3 : (ys.length ≤ j) ∨ (j = 100 ∧ j < ys.length) := by have := HN.out; omega
      have hfine := doneRows_fine ys j
      have hDl := doneRows_length ys j
      obtain ⟨hlv1, hlv2, hlv3⟩ := Hlive.out j
      have hlv3 := hlv3 (by omega)
      obtain ⟨D, hD⟩ : ∃ D, D = doneRows ys j := ⟨_, rfl⟩
      rw [← hD] at hfine hDl hlv1 hlv3 K1 Hown hm
      obtain ⟨ops, hops⟩ : ∃ o, o = rowsOps D := ⟨_, rfl⟩
      have hof : ∀ o ∈ ops, o.fits st.length := by rw [hops, Hlen.out]; exact rowsOps_fits D hfine
      rw [← hops] at hlv1 hlv3 K1
      obtain ⟨z1, z2, z3, z4⟩ := Read.begins st ops hof
      have hbc : beginCode ((Enc.new st).run ops).text = 0 := by unfold beginCode; rw [if_neg z2, if_neg z3]
      have hsz := ((Enc.new st).run ops).text_size hlv1
      have hstp : ((Enc.new st).run ops).steps ≤ 80001 := by
        have h4 : ((Enc.new st).run ops).steps ≤ ((Enc.new st).run ops).cost + 1 := by
          unfold Enc.cost Enc.steps
          split <;> omega
        omega
      obtain ⟨S, hS⟩ : ∃ S, S = ((Enc.new st).run ops).text := ⟨_, rfl⟩
      rw [← hS] at z4 hbc hsz
      have hsmall : S.size ≤ 20000 := by omega
      have HS := Lib.hid hS
      have Hz4 : Hid (Read st ops (rowsOps (D.take 0)).length (Dec.begin S st)) := Lib.hid z4
      have Hbc := Lib.hid hbc
      have Hcost := Lib.hid hlv3
      have Hof := Lib.hid hof
      have Hops := Lib.hid hops
      have Hfine := Lib.hid hfine
      have hmD : m ≤ 100 := by omega
      clear z1 z2 z3 z4 hS hbc hsz hstp hlv1 hlv2 hlv3 hof hops hfine hD hDl
      rcases hend3 with hend3 | ⟨hend3, hend4⟩
      all_goals
        go_wp2_with fail
        refine (K1.out.term 1 (by have := Hcost.out; omega)).mono ?_
        rintro r w3 ⟨rfl, ov2, g1, g2⟩
        have Own3 := Lib.hid (rows_past_enc Hown.out K1.out g2)
        have G1 := Lib.hid g1
        clear g1 g2
        go_wp2_with fail
        refine (G1.out.bytes).mono ?_
        rintro r w4 ⟨rfl, rfl⟩
        rw [show strOfNums (packed (((Enc.new st).run ops).term 1).bits) = S from HS.out.symm]
        go_wp2_with fail
        refine (bins_init qp w3 hq0 hq1).mono ?_
        rintro r w4 ⟨g4, rfl, hb4, hg4, ho4⟩
        rw [← Hst.out] at hb4
        have hi4 : IntSlice w4 (.slice (some ⟨g4, 0, none⟩) 256 256) st := by
          have := IntSlice.of_block (cap := 256) hb4
          rw [Hlen.out] at this
          exact this
        have Hi4 := Lib.hid hi4
        have Ho4 := Lib.hid (G1.out.on.trans ho4)
        have Own4 := Lib.hid (rows_past Own3.out ho4)
        clear hb4 hg4 ho4 hi4
        go_wp2_with fail
        refine (dec_new (Ha.out.only Ho1.out (by simp)) Ho4.out S _ st Hi4.out (by rw [Hlen.out]; omega) (by omega)).mono ?_
        rintro r w5 ⟨b2, t2, s2, rfl, g1, g2, -, -, -⟩
        have hp : beginPtr S b2 = .pointer (some ⟨b2, 0, none⟩) := by unfold beginPtr; rw [Hbc.out, if_pos rfl]
        rw [hp, Hbc.out]
        have D0 := Lib.hid (g1 Hbc.out)
        have Own5 := Lib.hid (rows_past Own4.out g2)
        clear g1 g2 hp
        go_wp2_with (first | (go_at_call 21; refine (num_any _ _).mono ?_; rintro e w' ⟨rfl, rfl⟩))
        go_loopw [11] (fun i wr => ∃ (p : Nat) (d : Dec), p ≤ m ∧ i = .int .i64 p ∧ DecAt w1 wr b2 t2 s2 d ∧ Hid (Read st ops (rowsOps (D.take p)).length d) ∧ wr.ownsRow w1.heap.size 59 4 (.slice ao m cp) m (flatRows D)) (fun i _ => m - (intOf i).toNat)
        case atStart => exact ⟨0, _, Nat.zero_le _, rfl, D0.out, Hz4, Own5.out⟩
        case round =>
          obtain ⟨p, d, hp, rfl, k1, k3, own⟩ := hrel
          have hds : d.s.size ≤ 20000 := by rw [k3.out.text, ← HS.out]; exact hsmall
          have K2 := Lib.hid k1
          have Own := Lib.hid own
          by_cases hlp : p < m
          · obtain ⟨g, cap, hv, -, -⟩ := own.form (by omega)
            have hpD : p < D.length := by rw [← hm.out]; exact hlp
            obtain ⟨rfl⟩ : ao = some ⟨g, 0, none⟩ := by injection hv
            have hcells : ∀ q, q < 4 → wr.cell? ⟨g, p * 4 + q, none⟩ = some (.int .i64 ((D.getD p []).getD q 0)) := by
              intro q hq
              have := own.cells (g := g) rfl _ _ (flatRows_at D p q hpD hq)
              rw [Addr.add_lit, Nat.zero_add] at this
              exact this
            have hfa : fineRow (D.getD p []) = true := by
              have : D.getD p [] = D[p] := by simp [List.getD, List.getElem?_eq_getElem hpD]
              rw [this]
              exact Hfine.out _ (List.getElem_mem hpD)
            unfold fineRow at hfa
            rw [decide_eq_true_eq] at hfa
            obtain ⟨hs1, hs2⟩ := rowsOps_split D p hpD
            rw [← Hops.out] at hs1
            obtain ⟨d', hgv, hrd⟩ := Read.gives st ops (rowDeeds (D.getD p [])) Hof.out _ d _ k3.out hs1
            rw [← hs2] at hrd
            unfold rowDeeds at hgv
            have c0 := hcells 0 (by omega)
            have c1 := hcells 1 (by omega)
            have c2 := hcells 2 (by omega)
            have c3 := hcells 3 (by omega)
            obtain ⟨x0, h0⟩ : ∃ k, k = (D.getD p []).getD 0 0 := ⟨_, rfl⟩
            obtain ⟨x1, h1⟩ : ∃ k, k = (D.getD p []).getD 1 0 := ⟨_, rfl⟩
            obtain ⟨x2, h2⟩ : ∃ k, k = (D.getD p []).getD 2 0 := ⟨_, rfl⟩
            obtain ⟨x3, h3⟩ : ∃ k, k = (D.getD p []).getD 3 0 := ⟨_, rfl⟩
            rw [← h0, Nat.add_zero] at c0
            rw [← h1] at c1
            rw [← h2] at c2
            rw [← h3] at c3
            rw [← h0, ← h1, ← h2, ← h3] at hfa hgv
            have Hfa := Lib.hid hfa
            have Hgv := Lib.hid hgv
            have Hrd := Lib.hid hrd
            have Hx2 := Lib.hid h2
            clear hcells hfa hgv hrd hs1 hs2 h0 h1 h2 h3 k1 own k3 hv hpD
            have hgn : g ∉ [b2, s2] := by
              obtain ⟨c, hc⟩ := ownsRow_block Own.out (g := g) rfl
              simp only [List.mem_cons, List.not_mem_nil, or_false, not_or]
              exact ⟨block_type hc K2.out.is.cells (by decide), block_type hc K2.out.is.sts (by decide)⟩
            have K2d : Hid (DecAt w1 wr.drew b2 t2 s2 d) := Lib.hid (K2.out.drewN 1)
            have Ownd := Lib.hid (ownsRow_of_block (w' := wr.drew) Own.out (fun _ _ => rfl))
            have hds2 : d.s.size ≤ 140737488355328 := by omega
            go_wp2
            go_region_held3 (fun w' => w'.cell? ⟨g, p * 4, none⟩ = some (.int .i64 x0) ∧ w'.cell? ⟨g, p * 4 + 1, none⟩ = some (.int .i64 x1) ∧ w'.cell? ⟨g, p * 4 + 3, none⟩ = some (.int .i64 x3)) (first | exact ⟨c0, c1, c3⟩ | exact ⟨d0, d1, d3⟩ | go_keep | assumption)
              ((first | (go_at_call 44; refine (bins_get K2d.out x0 x1 x2 x3 Hfa.out.1 Hfa.out.2.1 Hfa.out.2.2 Hgv.out hds2).mono ?_; rintro r w6 ⟨rfl, g1, g2⟩; have K6 := Lib.hid g1; have Own6 := Lib.hid (rows_past_dec Ownd.out K2d.out g2); have d0 := g2.cell (w := wr.drew) c0 hgn; have d1 := g2.cell (w := wr.drew) c1 hgn; have d3 := g2.cell (w := wr.drew) c3 hgn; have c2e := g2.cell (w := wr.drew) c2 hgn; clear g1 g2)))
            clear c0 c1 c2 c3 d0 d1 d3 hgn K2 Own
            go_wp2_with (first | (go_at_call 21; refine (num_any _ _).mono ?_; rintro e w' ⟨rfl, rfl⟩))
            go_roundw
            case rel => exact ⟨p + 1, d', by omega, by go_num, K6.out, Hrd, Own6.out⟩
            case measure => simp [intOf] <;> omega
          · obtain rfl : p = m := by omega
            have hrd : Read st ops ops.length d := by
              have := k3.out
              rw [hm.out, List.take_length, ← Hops.out] at this
              exact this
            obtain ⟨e1, -, -, -⟩ := Read.ends st ops d Hof.out hrd
            have E1 := Lib.hid e1
            clear hrd e1 k1 own
            go_wp2_with fail
            refine (K2.out.term (by omega)).mono ?_
            rintro r w6 ⟨rfl, g1, -⟩
            rw [E1.out] at g1 ⊢
            have G6 := Lib.hid g1.on
            clear g1
            go_wp2_with (first | (go_at_call 21; refine (num_any _ _).mono ?_; rintro e w' ⟨rfl, rfl⟩))
            go_ret
            exact ⟨rfl, Ho1.out.trans G6.out⟩
end Go.Proofs.YtibojidpifgblaaDoor
