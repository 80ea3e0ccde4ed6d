/-
  SigForms: which blocks there are.
-/
import Derived.Test.YtgmnkihldlajcaaDoorLaw8Awake
namespace Go.Proofs.YtgmnkihldlajcaaDoor
open Go.RowKit

/-- The block: noughts, at its end x. -/
def endRow (k : Nat) (x : Int) : List Int := (List.replicate k 0).set (k - 1) x
theorem endRow_length (k : Nat) (x : Int) : (endRow k x).length = k := by simp [endRow]
theorem endRow_at (k : Nat) (x : Int) (i : Nat) : (endRow k x).getD i 0 = if i = k - 1 ∧ i < k then x else 0 := by
  unfold endRow
  rw [getD_set]
  by_cases h : k - 1 = i ∧ k - 1 < (List.replicate k (0 : Int)).length
  · rw [if_pos h, if_pos (by simp at h; omega)]
  · rw [if_neg h, if_neg (by simp at h ⊢; omega)]
    simp only [List.getD, List.getElem?_replicate]
    split <;> rfl
theorem endRow_range (k : Nat) (x : Int) (hk : 0 < k) : rangeB (endRow k x) = decide (-32767 ≤ x ∧ x ≤ 32767) := by
  by_cases h : -32767 ≤ x ∧ x ≤ 32767
  · rw [decide_eq_true h]
    refine rangeB_of fun i _ => ?_
    rw [endRow_at]
    split <;> omega
  · rw [decide_eq_false h]
    refine rangeB_not (i := k - 1) ?_
    rw [endRow_at, if_pos (by omega)]
    omega

theorem end_block {w : World} {g k : Nat} (x : Int) (h : w.heap[g]? = some (.cells (zrow k (.int .i64 0)) 3 (0, 0))) : (w.setCell ⟨g, k - 1, none⟩ (.int .i64 x)).heap[g]? = some (.cells (ints (endRow k x)) 3 (0, 0)) := by
  rw [ints_replicate] at h
  have := heap_set_same (i := k - 1) (.int .i64 x) h
  rw [ints_setIf] at this
  exact this
theorem new_text (st : List Int) : strOfNums (packed (Enc.new st).bits) = ⟨#[]⟩ := by simp [Enc.new, packed, strOfNums]
/-- What is asked of a block of size k, of a category. -/
def formCase (k : Nat) (x cat inc code : Int) : Prop := blkCode (endRow k x) cat inc = code ∧ (code = 0 → blkFine (endRow k x) cat inc = true) ∧ (code ≠ 0 → blkFine (endRow k x) cat inc = false)
theorem formCase_form (k : Nat) (x cat inc : Int) (h : mayB k cat inc = false) : formCase k x cat inc 800 := by
  unfold formCase blkCode blkFine
  rw [endRow_length, h]
  exact ⟨rfl, fun h => absurd h (by decide), fun _ => rfl⟩
theorem formCase_range (k : Nat) (x cat inc : Int) (hk : 0 < k) (h : mayB k cat inc = true) (hx : x < -32767 ∨ 32767 < x) : formCase k x cat inc 802 := by
  unfold formCase blkCode blkFine
  rw [endRow_length, h, endRow_range k x hk, decide_eq_false (by omega)]
  exact ⟨rfl, fun h => absurd h (by decide), fun _ => rfl⟩
theorem formCase_fine (k : Nat) (x cat inc : Int) (hk : 0 < k) (h : mayB k cat inc = true) (h0 : -32767 ≤ x) (h1 : x ≤ 32767) : formCase k x cat inc 0 := by
  unfold formCase blkCode blkFine
  rw [endRow_length, h, endRow_range k x hk, decide_eq_true ⟨h0, h1⟩]
  exact ⟨rfl, fun _ => rfl, fun h => absurd rfl h⟩
theorem mayB_no (k cat inc : Int) (h : (k ≠ 4 ∧ k ≠ 15 ∧ k ≠ 16) ∨ cat < 0 ∨ 3 < cat ∨ inc < 0 ∨ 1 < inc) : mayB k cat inc = false := by
  unfold mayB sizeB
  rcases h with h | h
  · rw [decide_eq_false (by omega)]; rfl
  · rw [Bool.and_eq_false_iff]; right; exact decide_eq_false (by omega)
theorem mayB_yes (k cat inc : Int) (h : k = 4 ∨ k = 15 ∨ k = 16) (h0 : 0 ≤ cat) (h1 : cat ≤ 3) (h2 : 0 ≤ inc) (h3 : inc ≤ 1) : mayB k cat inc = true := by
  unfold mayB sizeB
  rw [decide_eq_true h, decide_eq_true ⟨h0, h1, h2, h3⟩]; rfl

set_option maxRecDepth 100000 in
set_option maxHeartbeats 16000000 in
theorem forms_no (x size ct ic : Int) (w : World) (ha : Asc w) (q : Nat) (hk : (IntKind.u64.wrap size).tmod 20 = ((q + 1 : Nat) : Int)) (hq : q + 1 < 20) (cat inc code : Int) (hcat : ct.tmod 6 = cat) (hinc : ic.tmod 3 = inc) (hf : formCase (q + 1) x cat inc code)
    (hd : (code = 800 ∧ ((((q : Int) + 1 != 4) = true ∧ ((q : Int) + 1 != 15) = true ∧ ((q : Int) + 1 != 16) = true) ∨ ((((q : Int) + 1 != 4) = false ∨ (((q : Int) + 1 != 4) = true ∧ ((q : Int) + 1 != 15) = false) ∨ (((q : Int) + 1 != 4) = true ∧ ((q : Int) + 1 != 15) = true ∧ ((q : Int) + 1 != 16) = false)) ∧
        (cat < 0 ∨ (0 ≤ cat ∧ 3 < cat) ∨ (0 ≤ cat ∧ cat ≤ 3 ∧ inc < 0) ∨ (0 ≤ cat ∧ cat ≤ 3 ∧ 0 ≤ inc ∧ 1 < inc))))) ∨
      (code = 802 ∧ (((q : Int) + 1 != 4) = false ∨ (((q : Int) + 1 != 4) = true ∧ ((q : Int) + 1 != 15) = false) ∨ (((q : Int) + 1 != 4) = true ∧ ((q : Int) + 1 != 15) = true ∧ ((q : Int) + 1 != 16) = false)) ∧ 0 ≤ cat ∧ cat ≤ 3 ∧ 0 ≤ inc ∧ inc ≤ 1 ∧ (x < -32767 ∨ (-32767 ≤ x ∧ 32767 < x)))) :
    Calls Tryd.prog 4 #[.int .i64 x, .int .i64 size, .int .i64 ct, .int .i64 ic] w fun e w' => e = .returned (.bool true) ∧ Only [] w w' := by
  have Ha := Lib.hid ha
  have F := Lib.hid hf
  have F2 : Hid (code ≠ 0) := Lib.hid (by rcases hd with ⟨h, -⟩ | ⟨h, -⟩ <;> omega)
  clear ha hf
  rcases hd with ⟨rfl, ⟨e1, e2, e3⟩ | ⟨e1 | ⟨e1, e2⟩ | ⟨e1, e2, e3⟩, c1 | ⟨c1, c2⟩ | ⟨c1, c2, c3⟩ | ⟨c1, c2, c3, c4⟩⟩⟩ | ⟨rfl, e1 | ⟨e1, e2⟩ | ⟨e1, e2, e3⟩, c1, c2, c3, c4, x1 | ⟨x1, x2⟩⟩
  all_goals
    go_enter Tryd.func4, Tryd.ntmps4
    go_wp2_with fail
    refine (awake8 w Ha.out).mono ?_
    rintro r w1 ⟨rfl, h1⟩
    have H1 := Lib.hid h1
    clear h1
    go_wp2_with (refine wpList_make1 rfl _ _ rfl elt64 rfl (q + 1) rfl rfl (by simp) (by simp) (by decide) (by omega) ?_)
    intro w2 hc2 ho2 hz2
    have z1 := cells_of hc2 q
    have z2 := free_of hc2 q
    have z3 : (zrow (q + 1) (.int .i64 0))[q]? = some (Value.int .i64 0) := by simp [zrow]
    rw [z3] at z1
    have C3 := Lib.hid (end_block x hc2)
    rw [Nat.add_sub_cancel] at C3
    have O3 := Lib.hid ((H1.out.trans ho2).setCell (p := ⟨w1.heap.size, q, none⟩) (.inr H1.out.size) (.int .i64 x))
    clear z3 ho2 hz2 hc2
    go_wp2_with fail
    refine (bins_init 26 _ (by omega) (by omega)).mono ?_
    rintro r w4 ⟨g4, rfl, hb4, hg4, ho4⟩
    have Hb4 := Lib.hid (init256 hb4)
    have C4 := Lib.hid (ho4.heap C3.out (by simp))
    have O4 := Lib.hid (O3.out.trans ho4)
    clear hb4 ho4 hg4 z1 z2
    go_wp2_with fail
    refine (enc_new Ha.out O4.out _ (initL 26) Hb4.out (by rw [initL_length]; omega)).mono ?_
    rintro r w5 ⟨b1, t1, s1, rfl, h5, ho5, -, -, -⟩
    have H5 := Lib.hid h5
    have I5 : Hid (IntSlice w5 (.slice (some ⟨w1.heap.size, 0, none⟩) (q + 1) (q + 1)) (endRow (q + 1) x)) := Lib.hid (by
      have := IntSlice.of_block (cap := q + 1) (ho5.heap C4.out (by simp))
      rw [endRow_length] at this
      exact this)
    clear h5 ho5
    go_wp2_with fail
    refine (sig_put H5.out (Enc.live_new _) (by simp [Enc.new, beginOf, initL]) (by show (0 : Nat) < _; omega) _ (endRow (q + 1) x) cat inc I5.out).mono ?_
    rintro r w6 ⟨rfl, ov6, g6, -⟩
    rw [F.out.2.2 F2.out, if_neg (by decide)] at g6
    rw [F.out.1]
    have H6 := Lib.hid g6
    clear g6
    go_wp2_with (first | (go_at_call 10; refine (num_any _ _).mono ?_; rintro e w' ⟨rfl, rfl⟩))
    refine (H6.out.bytes).mono ?_
    rintro r w7 ⟨rfl, rfl⟩
    rw [new_text]
    go_wp2
    go_ret
    exact ⟨rfl, H6.out.on⟩

set_option maxRecDepth 100000 in
set_option maxHeartbeats 16000000 in
theorem forms_zero (x size ct ic : Int) (w : World) (ha : Asc w) (hk : (IntKind.u64.wrap size).tmod 20 = 0) (cat inc : Int) (hcat : ct.tmod 6 = cat) (hinc : ic.tmod 3 = inc) :
    Calls Tryd.prog 4 #[.int .i64 x, .int .i64 size, .int .i64 ct, .int .i64 ic] w fun e w' => e = .returned (.bool true) ∧ Only [] w w' := by
  have Ha := Lib.hid ha
  have F1 : Hid (blkCode [] cat inc = 800) := Lib.hid (by unfold blkCode; rw [show mayB ([] : List Int).length cat inc = false from mayB_no _ _ _ (.inl (by simp))]; rfl)
  have F2 : Hid (blkFine [] cat inc = false) := Lib.hid (by unfold blkFine; rw [show mayB ([] : List Int).length cat inc = false from mayB_no _ _ _ (.inl (by simp))]; rfl)
  clear ha
  go_enter Tryd.func4, Tryd.ntmps4
  go_wp2_with fail
  refine (awake8 w Ha.out).mono ?_
  rintro r w1 ⟨rfl, h1⟩
  have H1 := Lib.hid h1
  clear h1
  go_wp2_with (refine wpList_make1 rfl _ _ rfl elt64 rfl 0 rfl rfl (by simp) (by simp) (by decide) (by omega) ?_)
  intro w2 hc2 ho2 hz2
  have O3 := Lib.hid (H1.out.trans ho2)
  clear ho2 hz2 hc2
  go_wp2_with fail
  refine (bins_init 26 _ (by omega) (by omega)).mono ?_
  rintro r w4 ⟨g4, rfl, hb4, hg4, ho4⟩
  have Hb4 := Lib.hid (init256 hb4)
  have O4 := Lib.hid (O3.out.trans ho4)
  clear hb4 ho4 hg4
  go_wp2_with fail
  refine (enc_new Ha.out O4.out _ (initL 26) Hb4.out (by rw [initL_length]; omega)).mono ?_
  rintro r w5 ⟨b1, t1, s1, rfl, h5, ho5, -, -, -⟩
  have H5 := Lib.hid h5
  have I5 : Hid (IntSlice w5 (.slice (some ⟨w1.heap.size, 0, none⟩) 0 0) []) := Lib.hid ⟨_, _, rfl, .inl rfl⟩
  clear h5 ho5
  go_wp2_with fail
  refine (sig_put H5.out (Enc.live_new _) (by simp [Enc.new, beginOf, initL]) (by show (0 : Nat) < _; omega) _ [] cat inc I5.out).mono ?_
  rintro r w6 ⟨rfl, ov6, g6, -⟩
  rw [F2.out, if_neg (by decide)] at g6
  rw [F1.out]
  have H6 := Lib.hid g6
  clear g6
  go_wp2_with (first | (go_at_call 10; refine (num_any _ _).mono ?_; rintro e w' ⟨rfl, rfl⟩))
  refine (H6.out.bytes).mono ?_
  rintro r w7 ⟨rfl, rfl⟩
  rw [new_text]
  go_wp2
  go_ret
  exact ⟨rfl, H6.out.on⟩

set_option maxRecDepth 100000 in
set_option maxHeartbeats 16000000 in
theorem forms_yes (x size ct ic : Int) (w : World) (ha : Asc w) (q : Nat) (hk : (IntKind.u64.wrap size).tmod 20 = ((q + 1 : Nat) : Int)) (hq : q + 1 < 20) (cat inc : Int) (hcat : ct.tmod 6 = cat) (hinc : ic.tmod 3 = inc) (hm : mayB (q + 1 : Nat) cat inc = true) (hf : formCase (q + 1) x cat inc 0)
    (hd : ((q : Int) + 1 != 4) = false ∨ (((q : Int) + 1 != 4) = true ∧ ((q : Int) + 1 != 15) = false) ∨ (((q : Int) + 1 != 4) = true ∧ ((q : Int) + 1 != 15) = true ∧ ((q : Int) + 1 != 16) = false))
    (c1 : 0 ≤ cat) (c2 : cat ≤ 3) (c3 : 0 ≤ inc) (c4 : inc ≤ 1) (x1 : -32767 ≤ x) (x2 : x ≤ 32767) :
    Calls Tryd.prog 4 #[.int .i64 x, .int .i64 size, .int .i64 ct, .int .i64 ic] w fun e w' => e = .returned (.bool true) ∧ Only [] w w' := by
  have Ha := Lib.hid ha
  have hfine := hf.2.1 rfl
  have hB := blk_read (initL 26) (endRow (q + 1) x) cat inc (initL_length 26) hfine
  obtain ⟨l1, l2, l3, l4, l5, d', l6⟩ := hB
  obtain ⟨st, hst⟩ : ∃ st, st = initL 26 := ⟨_, rfl⟩
  have hlen : st.length = 256 := by rw [hst]; exact initL_length 26
  rw [← hst] at l1 l2 l3 l4 l5 l6
  obtain ⟨ops, hops⟩ : ∃ o, o = sigDeeds (endRow (q + 1) x) cat inc := ⟨_, rfl⟩
  have Hg6 := Lib.hid l6
  rw [← hops] at l1 l2 l3 l4 l5 Hg6
  have Hops := Lib.hid hops
  obtain ⟨S, hS⟩ : ∃ S, S = ((Enc.new st).run ops).text := ⟨_, rfl⟩
  rw [← hS] at l4 l5 Hg6
  have L1 := Lib.hid l1
  have L2 := Lib.hid l2
  have L3 := Lib.hid l3
  have L4 := Lib.hid l4
  have HS := Lib.hid hS
  have Hst := Lib.hid hst
  have Hlen := Lib.hid hlen
  have F := Lib.hid hf
  have Hfine := Lib.hid hfine
  have Hm := Lib.hid hm
  clear ha hf hfine hm l1 l2 l3 l4 l6 hS hst hlen hops
  rcases hd with e1 | ⟨e1, e2⟩ | ⟨e1, e2, e3⟩
  all_goals
    go_enter Tryd.func4, Tryd.ntmps4
    go_wp2_with fail
    refine (awake8 w Ha.out).mono ?_
    rintro r w1 ⟨rfl, h1⟩
    have H1 := Lib.hid h1
    clear h1
    go_wp2_with (refine wpList_make1 rfl _ _ rfl elt64 rfl (q + 1) rfl rfl (by simp) (by simp) (by decide) (by omega) ?_)
    intro w2 hc2 ho2 hz2
    have z1 := cells_of hc2 q
    have z2 := free_of hc2 q
    have z3 : (zrow (q + 1) (.int .i64 0))[q]? = some (Value.int .i64 0) := by simp [zrow]
    rw [z3] at z1
    have C3 := Lib.hid (end_block x hc2)
    rw [Nat.add_sub_cancel] at C3
    have O3 := Lib.hid ((H1.out.trans ho2).setCell (p := ⟨w1.heap.size, q, none⟩) (.inr H1.out.size) (.int .i64 x))
    clear z3 ho2 hz2 hc2
    go_wp2_with fail
    refine (bins_init 26 _ (by omega) (by omega)).mono ?_
    rintro r w4 ⟨g4, rfl, hb4, hg4, ho4⟩
    have Hb4 := Lib.hid (init256 hb4)
    rw [← Hst.out] at Hb4
    have C4 := Lib.hid (ho4.heap C3.out (by simp))
    have O4 := Lib.hid (O3.out.trans ho4)
    have hg4b : w1.heap.size < w4.heap.size := lt_of_block C4.out
    clear hb4 ho4 hg4 z1 z2
    go_wp2_with fail
    refine (enc_new (Ha.out.only O4.out (by simp)) (Only.refl _ w4) _ st Hb4.out (by rw [Hlen.out]; omega)).mono ?_
    rintro r w5 ⟨b1, t1, s1, rfl, h5, ho5, -, -, -⟩
    have H5 := Lib.hid h5
    have C5 := Lib.hid (ho5.heap C4.out (by simp))
    have I5 : Hid (IntSlice w5 (.slice (some ⟨w1.heap.size, 0, none⟩) (q + 1) (q + 1)) (endRow (q + 1) x)) := Lib.hid (by
      have := IntSlice.of_block (cap := q + 1) C5.out
      rw [endRow_length] at this
      exact this)
    clear h5 ho5
    go_wp2_with fail
    refine (sig_put H5.out (Enc.live_new _) (by rw [← Hlen.out]; simp [Enc.new, beginOf]) (by show (0 : Nat) < _; omega) _ (endRow (q + 1) x) cat inc I5.out).mono ?_
    rintro r w6 ⟨rfl, ov6, g6, -⟩
    rw [Hfine.out, if_pos rfl, ← Hops.out] at g6
    rw [F.out.1]
    have H6 := Lib.hid g6
    clear g6
    go_wp2_with fail
    refine (H6.out.term 1 (by have := L3.out; omega)).mono ?_
    rintro r w7 ⟨rfl, ov7, g7, -⟩
    have H7 := Lib.hid g7
    clear g7
    go_wp2_with fail
    refine (H7.out.bytes).mono ?_
    rintro r w8 ⟨rfl, rfl⟩
    rw [show strOfNums (packed (((Enc.new st).run ops).term 1).bits) = S from HS.out.symm]
    go_wp2_with fail
    refine (bins_init 26 w7 (by omega) (by omega)).mono ?_
    rintro r w8 ⟨g8, rfl, hb8, hg8, ho8⟩
    have Hb8 := Lib.hid (init256 hb8)
    rw [← Hst.out] at Hb8
    have O8 := Lib.hid (H7.out.on.trans ho8)
    clear hb8 ho8 hg8
    go_wp2_with fail
    refine (dec_new (Ha.out.only O4.out (by simp)) O8.out S _ st Hb8.out (by rw [Hlen.out]; omega) (by omega)).mono ?_
    rintro r w9 ⟨b2, t2, s2, rfl, g1, g2, -, -, -⟩
    have hp : beginPtr S b2 = .pointer (some ⟨b2, 0, none⟩) := by unfold beginPtr; rw [L4.out, if_pos rfl]
    rw [hp, L4.out]
    have D9 := Lib.hid (g1 L4.out)
    clear g1 g2 hp
    have hget := sig_get D9.out (endRow (q + 1) x) cat inc (by rw [endRow_length]; exact Hm.out) (blkFine_spec Hfine.out).2 (by rw [← Hops.out]; exact Hg6.out) (by show S.size ≤ _; omega) (by rw [← Hlen.out]; simp [Dec.begin, beginOf])
    rw [endRow_length] at hget
    have Hget := Lib.hid hget
    clear hget
    go_wp2_with fail
    refine Hget.out.mono ?_
    rintro r w10 ⟨g10, cap10, rfl, g2, g3, -⟩
    have I10 := Lib.hid g2
    have D10 := Lib.hid g3.on
    have I11 : Hid (IntSlice w10 (.slice (some ⟨w1.heap.size, 0, none⟩) (q + 1) (q + 1)) (endRow (q + 1) x)) := Lib.hid (by
      have := IntSlice.of_block (cap := q + 1) (D10.out.heap C4.out (by simp))
      rw [endRow_length] at this
      exact this)
    clear g2 g3
    go_wp2_with (first | (go_at_call 10; refine (num_any _ _).mono ?_; rintro e w' ⟨rfl, rfl⟩))
    refine (same_ints _ _ (endRow (q + 1) x) (endRow (q + 1) x) _ I10.out I11.out (by rw [endRow_length]; omega) (by rw [endRow_length]; omega)).mono ?_
    rintro r w11 ⟨rfl, g1⟩
    have H11 := Lib.hid (D10.out.trans g1)
    clear g1
    rw [decide_eq_true (show endRow (q + 1) x = endRow (q + 1) x from rfl)]
    go_wp2
    go_ret
    exact ⟨rfl, O4.out.trans H11.out⟩

theorem law_forms (x size ct ic : Int) (w : World) (ha : Asc w) : Calls Tryd.prog 4 #[.int .i64 x, .int .i64 size, .int .i64 ct, .int .i64 ic] w fun e w' => e = .returned (.bool true) ∧ Only [] w w' := by
  obtain ⟨k, hk, hk2⟩ := u64rem size 20 (by decide)
  have hk : (IntKind.u64.wrap size).tmod 20 = (k : Int) := hk
  obtain ⟨cat, hcat⟩ : ∃ c : Int, ct.tmod 6 = c := ⟨_, rfl⟩
  obtain ⟨inc, hinc⟩ : ∃ c : Int, ic.tmod 3 = c := ⟨_, rfl⟩
  cases k with
  | zero => exact forms_zero x size ct ic w ha hk cat inc hcat hinc
  | succ q =>
    have hs : (((q : Int) + 1 != 4) = true ∧ ((q : Int) + 1 != 15) = true ∧ ((q : Int) + 1 != 16) = true) ∨
        (((q : Int) + 1 != 4) = false ∨ (((q : Int) + 1 != 4) = true ∧ ((q : Int) + 1 != 15) = false) ∨ (((q : Int) + 1 != 4) = true ∧ ((q : Int) + 1 != 15) = true ∧ ((q : Int) + 1 != 16) = false)) := by
      simp only [bne_iff_ne, bne_eq_false_iff_eq]
      omega
    have hc : (cat < 0 ∨ (0 ≤ cat ∧ 3 < cat) ∨ (0 ≤ cat ∧ cat ≤ 3 ∧ inc < 0) ∨ (0 ≤ cat ∧ cat ≤ 3 ∧ 0 ≤ inc ∧ 1 < inc)) ∨ (0 ≤ cat ∧ cat ≤ 3 ∧ 0 ≤ inc ∧ inc ≤ 1) := by omega
    rcases hs with hs | hs
    · have hn := hs
      simp only [bne_iff_ne] at hn
      exact forms_no x size ct ic w ha q hk hk2 cat inc 800 hcat hinc (formCase_form _ _ _ _ (mayB_no _ _ _ (.inl (by omega)))) (.inl ⟨rfl, .inl hs⟩)
    · rcases hc with hc | ⟨c1, c2, c3, c4⟩
      · exact forms_no x size ct ic w ha q hk hk2 cat inc 800 hcat hinc (formCase_form _ _ _ _ (mayB_no _ _ _ (.inr (by omega)))) (.inl ⟨rfl, .inr ⟨hs, hc⟩⟩)
      · have hn := hs
        simp only [bne_iff_ne, bne_eq_false_iff_eq] at hn
        have hm : mayB (q + 1 : Nat) cat inc = true := mayB_yes _ _ _ (by omega) c1 c2 c3 c4
        rcases (show (x < -32767 ∨ (-32767 ≤ x ∧ 32767 < x)) ∨ (-32767 ≤ x ∧ x ≤ 32767) by omega) with hx | ⟨x1, x2⟩
        · exact forms_no x size ct ic w ha q hk hk2 cat inc 802 hcat hinc (formCase_range _ _ _ _ (by omega) hm (by omega)) (.inr ⟨rfl, hs, c1, c2, c3, c4, hx⟩)
        · exact forms_yes x size ct ic w ha q hk hk2 cat inc hcat hinc hm (formCase_fine _ _ _ _ (by omega) hm x1 x2) hs c1 c2 c3 c4 x1 x2
end Go.Proofs.YtgmnkihldlajcaaDoor
