/-
  The walk over levels' reader: block. The walk over levels.Get, where the bits are those of a block.
-/
import Derived.Test.YtcppbdlmcbjmeaaGreatDoorJ36
import Derived.Recover
import Derived.Defers
namespace Go.Proofs.YtcppbdlmcbjmeaaGreatDoor
open Go.RowKit

theorem lvlN_near (ones i : Nat) (v : Int) (h : ones ≤ i) : lvlN ones i v = seN (nearN (((i : Int) == (ones : Int)) && decide ((ones : Int) < 3)) v) := by
  unfold lvlN nearN
  rw [if_neg (by omega)]
  by_cases h1 : i = ones ∧ ones < 3
  · have e1 : ((i : Int) == (ones : Int)) = true := by simp [h1.1]
    have e2 : decide ((ones : Int) < 3) = true := decide_eq_true (by omega)
    rw [if_pos h1, e1, e2]
    rfl
  · have e : (((i : Int) == (ones : Int)) && decide ((ones : Int) < 3)) = false := by
      by_cases h2 : i = ones
      · rw [decide_eq_false (by omega), Bool.and_false]
      · rw [show ((i : Int) == (ones : Int)) = false by simp; omega, Bool.false_and]
    rw [if_neg h1, e]
    rfl
/-- A row that the call owns stays where the reader alone goes on. -/
theorem own_reader {w w' : World} {B b n : Nat} {v : Value} {xs : List Value} (h : w.ownsRow B 3 1 v n xs) (ho : Only [b] w w') (hb : b < B) : w'.ownsRow B 3 1 v n xs :=
  ownsRow_of_block h (fun z hz => by
    obtain ⟨c, hc⟩ := ownsRow_block h hz
    refine ho.block z (lt_of_block hc) (fun e => ?_)
    have : z = b := by simpa using e
    rcases h.2 with ⟨h1, _⟩ | ⟨g', cap', cur', h1, h2, _⟩
    · rw [h1] at hz; simp [Value.ownBlock] at hz
    · rw [h1] at hz; simp [Value.ownBlock] at hz; omega)
theorem ints_snoc (xs : List Int) (k : Nat) (h : k < xs.length) : ((xs.take k).map (Value.int .i64)) ++ [Value.int .i64 (xs.getD k 0)] = (xs.take (k + 1)).map (Value.int .i64) := by
  rw [List.take_add_one, List.map_append, List.getElem?_eq_getElem h]
  simp [List.getElem?_eq_getElem h, List.getD]
set_option maxRecDepth 100000 in
set_option maxHeartbeats 1600000 in
theorem lv_block (kb b : Nat) (s : ByteArray) (p : Nat) (cs : List Int) (w : World) (hk : LrIs w kb b) (h : RdIs w b s p) (hH : Holds s p (levN cs)) (hsz : cs.length = 4 ∨ cs.length = 15 ∨ cs.length = 16) (hr : rangeB cs = true) (hs : s.size ≤ 140737488355328) :
    Calls Tryz.prog 270 #[.pointer (some ⟨kb, 0, none⟩), .int .i64 cs.length] w fun r w' => ∃ g, r = .returned (.slice (some ⟨g, 0, none⟩) cs.length cs.length) ∧ w'.heap[g]? = some (.cells (ints cs) 3 (0, 0)) ∧ w.heap.size ≤ g ∧ RdIs w' b s (p + (levN cs).length) ∧ Only [b] w w' := by
  have hkb := hk.ne h
  have hbs : b < w.heap.size := lt_of_block h
  have hks : kb < w.heap.size := lt_of_block hk
  have hplN : (placesN cs).length ≤ cs.length := nzTo_length cs _
  have hrange := fun i => rangeB_at hr i
  obtain ⟨N, hN⟩ : ∃ N, N = cs.length := ⟨_, rfl⟩
  obtain ⟨n, hn⟩ : ∃ n, n = (placesN cs).length := ⟨_, rfl⟩
  rw [← hN] at hsz hplN ⊢
  rw [← hn] at hplN
  have hN16 : N ≤ 16 := by omega
  have hN4 : 4 ≤ N := by omega
  have HK := Lib.hid hk
  have H := Lib.hid h
  have HH := Lib.hid hH
  have HN := Lib.hid hN
  have Hn := Lib.hid hn
  have Hr := Lib.hid hrange
  have htot : ∃ T, T = p + (levN cs).length := ⟨_, rfl⟩
  obtain ⟨T, hT⟩ := htot
  rw [← hT]
  have HT := Lib.hid hT
  clear hk h hH hN hn hr hrange hsz hT
  go_enter Tryz.func270, Tryz.ntmps270
  go_wp2_with (at_make; refine wpList_make1 rfl _ _ rfl elt64 rfl N rfl rfl rfl rfl (by decide) (by omega) ?_)
  intro w1 hz1 ho1 hs1
  have Hs1 := Lib.hid hs1
  clear hs1
  have HZ := Lib.hid hz1
  have HO1 : Hid (Only [b] w w1) := Lib.hid (ho1.mono (by simp))
  have HK1 : Hid (LrIs w1 kb b) := Lib.hid (HK.out.only ho1 (by simp))
  have H1 : Hid (RdIs w1 b s p) := Lib.hid (H.out.only ho1 (by simp))
  have hH1 := HH.out
  unfold levN at hH1
  rw [← Hn.out, ← HN.out] at hH1
  have HH1 := Lib.hid hH1
  clear hz1 ho1 hH1 HK
  go_wp2_with fail
  refine (lv_rte kb b s p n N w1 HK1.out H1.out HH1.out.left hplN hN16 hs).mono ?_
  rintro r w2 ⟨rfl, h2, o2⟩
  have H2 := Lib.hid h2
  have O2 : Hid (Only [b] w w2) := Lib.hid (HO1.out.trans o2)
  have HK2 : Hid (LrIs w2 kb b) := Lib.hid (HK1.out.only o2 (by simpa using hkb))
  have HZ2 : Hid (w2.heap[w.heap.size]? = some (.cells (zrow N (.int .i64 0)) 3 (0, 0))) := Lib.hid (o2.heap HZ.out (by simp; omega))
  have hsz2 : w.heap.size + 1 ≤ w2.heap.size := by have := o2.size; have := Hs1.out; omega
  clear h2 o2 HZ HK1 H1
  by_cases hn0 : n = 0
  · subst hn0
    go_wp2
    go_ret
    refine ⟨_, rfl, ?_, by omega, ?_, O2.out⟩
    · rw [HZ2.out, ints_replicate, HN.out, ← outN_zero, show (0 : Nat) = (placesN cs).length from Hn.out, outN_all]
    · have e : (levN cs).length = (tezN 0 N).length := by
        unfold levN
        rw [← Hn.out, ← HN.out, if_pos rfl, List.append_nil]
      rw [HT.out, e]
      exact H2.out
  · obtain ⟨O, hO⟩ : ∃ O, O = onesN 3 (valsN cs) := ⟨_, rfl⟩
    have hlv : (valsN cs).length = n := by rw [Hn.out]; simp [valsN]
    have hO3 : O ≤ 3 := by rw [hO]; exact (onesN_le 3 _).1
    have hOn : O ≤ n := by rw [hO, ← hlv]; exact (onesN_le 3 _).2
    have hOa : Hid (∀ i, i < O → (valsN cs).getD i 0 = 1 ∨ (valsN cs).getD i 0 = -1) := Lib.hid (by rw [hO]; exact onesN_at 3 _)
    have hOs : Hid (O < 3 → O < n → ¬ ((valsN cs).getD O 0 = 1 ∨ (valsN cs).getD O 0 = -1)) := Lib.hid (by rw [hO, ← hlv]; exact onesN_stop 3 _)
    have hVr : Hid (∀ i, i < n → -32767 ≤ (valsN cs).getD i 0 ∧ (valsN cs).getD i 0 ≤ 32767 ∧ (valsN cs).getD i 0 ≠ 0) := Lib.hid (fun i hi => by
      have h1 := valsN_nz cs i (by rw [← Hn.out]; exact hi)
      have h2 := Hr.out ((placesN cs).getD i 0)
      rw [← valsN_at cs i (by rw [← Hn.out]; exact hi)] at h2
      exact ⟨h2.1, h2.2, h1⟩)
    obtain ⟨M, hM⟩ : ∃ M : Nat, M = min 3 n := ⟨_, rfl⟩
    have hMi : (min (3 : Int) (n : Int)) = (M : Int) := by omega
    have hOM : O ≤ M := by omega
    have hM16 : M ≤ 16 := by omega
    have hH2 := HH1.out.right
    rw [if_neg hn0, ← hO, ← hM] at hH2
    have hT2 := HT.out
    unfold levN at hT2
    rw [← Hn.out, ← HN.out, if_neg hn0, ← hO, ← hM, List.length_append, ← Nat.add_assoc] at hT2
    have Hlv := Lib.hid hlv
    have HMi := Lib.hid hMi
    have HH2 := Lib.hid hH2
    have HT2 := Lib.hid hT2
    clear hO hM hlv hMi hH2 hT2
    obtain ⟨REST, hREST⟩ : ∃ R, R = tezN ((placesN cs).getD 0 0 + 1 - n) (N - n) ++ runsN ((placesN cs).getD 0 0 + 1 - n) (placesN cs) := ⟨_, rfl⟩
    have HREST := Lib.hid hREST
    clear hREST
    obtain ⟨q2, hq2⟩ : ∃ q, q = p + (tezN n N).length := ⟨_, rfl⟩
    have H3 : Hid (RdIs w2 b s q2) := Lib.hid (by rw [hq2]; exact H2.out)
    have HH3 : Hid (Holds s q2 (tezN O M ++ (lvlsN O 0 (valsN cs) ++ REST))) := Lib.hid (by rw [hq2, HREST.out]; exact HH2.out)
    have HT3 : Hid (T = q2 + (tezN O M ++ (lvlsN O 0 (valsN cs) ++ REST)).length) := Lib.hid (by rw [hq2, HREST.out]; exact HT2.out)
    clear hq2 HT2 HH2 H2
    go_wp2_with fail
    rw [HMi.out]
    refine (lv_rte kb b s q2 O M w2 HK2.out H3.out HH3.out.left hOM hM16 hs).mono ?_
    rintro r w3 ⟨rfl, h4, o4⟩
    have H4 := Lib.hid h4
    have O4 : Hid (Only [b] w w3) := Lib.hid (O2.out.trans o4)
    have hsz4 := o4.size
    have HK4 : Hid (LrIs w3 kb b) := Lib.hid (HK2.out.only o4 (by simpa using hkb))
    have HZ4 : Hid (w3.heap[w.heap.size]? = some (.cells (zrow N (.int .i64 0)) 3 (0, 0))) := Lib.hid (o4.heap HZ2.out (by simp; omega))
    clear h4 o4 HZ2 HK2 H3
    go_wp2
    go_loopw [8, 28] (fun v q wr => ∃ (i pos : Nat), i ≤ O ∧ q = .int .i64 i ∧ wr.ownsRow (w.heap.size + 1) 3 1 v i (((valsN cs).take i).map (Value.int .i64)) ∧ RdIs wr b s pos ∧ Hid (Holds s pos (lvlsN O i ((valsN cs).drop i) ++ REST)) ∧ Hid (T = pos + (lvlsN O i ((valsN cs).drop i) ++ REST).length) ∧ Only [b] w wr ∧ LrIs wr kb b ∧ wr.heap[w.heap.size]? = some (.cells (zrow N (.int .i64 0)) 3 (0, 0)) ∧ w.heap.size + 1 ≤ wr.heap.size) (fun _ q _ => O - (intOf q).toNat)
    case atStart => exact ⟨0, q2 + (tezN O M).length, Nat.zero_le _, rfl, World.ownsRow_nil _ _ _ _, H4.out, Lib.hid (by rw [List.drop_zero]; exact HH3.out.right), Lib.hid (by rw [List.drop_zero, HT3.out, List.length_append]; omega), O4.out, HK4.out, HZ4.out, by omega⟩
    case round =>
      obtain ⟨i, pos, hi, rfl, hown, hr5, hH5, hT5, ho5, hk5, hz5, hs5⟩ := hrel
      have HOwn := Lib.hid hown
      have R5 := Lib.hid hr5
      have HO5 := Lib.hid ho5
      have HK5 := Lib.hid hk5
      have HZ5 := Lib.hid hz5
      by_cases hlt : i < O
      · have ck : wr.cell? ⟨kb, 0, none⟩ = some (.pointer (some ⟨b, 0, none⟩)) := by rw [cells_of hk5]; rfl
        have hdr := lvlsN_drop O (valsN cs) 0 i (by rw [Hlv.out]; omega)
        simp only [Nat.zero_add] at hdr
        have hH6 := hH5.out
        have hT6 := hT5.out
        rw [hdr, List.append_assoc] at hH6 hT6
        have hx1 := hOa.out i hlt
        obtain ⟨x, hx⟩ : ∃ x, x = (valsN cs).getD i 0 := ⟨_, rfl⟩
        rw [← hx] at hx1 hH6 hT6
        obtain ⟨y, hy⟩ : ∃ y : Nat, y = if x < 0 then 1 else 0 := ⟨_, rfl⟩
        have hbit : lvlN O i x = bitsN y 1 := by unfold lvlN; rw [if_pos hlt, hy]
        have hyx : (1 : Int) - 2 * (y : Int) = x := by rcases hx1 with rfl | rfl <;> (rw [hy]; decide)
        have hy1 : y ≤ 1 := by rw [hy]; split <;> omega
        rw [hbit] at hH6 hT6
        have HH6 := Lib.hid hH6
        have HT6 := Lib.hid hT6
        have Hyx := Lib.hid hyx
        have Hx := Lib.hid hx
        clear hH5 hT5 hH6 hT6 hdr hy hbit hyx hx hx1 hown hr5 ho5 hk5 hz5
        go_wp2_with fail
        refine (rd_bits b s pos y 1 wr R5.out HH6.out.left (by omega) (by decide) hs).mono ?_
        rintro r w6 ⟨rfl, h6, o6⟩
        have R6 := Lib.hid h6
        have O6 : Hid (Only [b] w w6) := Lib.hid (HO5.out.trans o6)
        have hsz6 := o6.size
        have K6 : Hid (LrIs w6 kb b) := Lib.hid (HK5.out.only o6 (by simpa using hkb))
        have Z6 : Hid (w6.heap[w.heap.size]? = some (.cells (zrow N (.int .i64 0)) 3 (0, 0))) := Lib.hid (o6.heap HZ5.out (by simp; omega))
        have Own6 := Lib.hid (own_reader (w' := w6) HOwn.out o6 (by omega))
        clear h6 o6
        go_wp2_with fail
        refine (lv_got kb y w6).mono ?_
        rintro r w7 ⟨rfl, rfl⟩
        go_wp2_with (at_builtin; first | rw [Hyx.out] | skip; refine wpList_push rfl _ _ rfl elt64 (w.heap.size + 1) _ _ _ _ Own6.out rfl rfl (by simp) rfl (by omega) (by decide) (by omega) ?_)
        intro g7 cap7 w7 hp
        obtain ⟨o7, b7⟩ := pushed_only hp Own6.out
        have O7 : Hid (Only [b] w w7) := Lib.hid (O6.out.trans' o7 (fun i hi => .inr (by have := (b7 i (by simpa using hi)).1; omega)))
        have R7 : Hid (RdIs w7 b s (pos + (bitsN y 1).length)) := Lib.hid (R6.out.only o7 (fun e => by have := (b7 b (by simpa using e)).1; omega))
        have K7 : Hid (LrIs w7 kb b) := Lib.hid (K6.out.only o7 (fun e => by have := (b7 kb (by simpa using e)).1; omega))
        have Z7 : Hid (w7.heap[w.heap.size]? = some (.cells (zrow N (.int .i64 0)) 3 (0, 0))) := Lib.hid (o7.heap Z6.out (fun e => by have := (b7 w.heap.size (by simpa using e)).1; omega))
        have hsz7 := o7.size
        have Own7 := Lib.hid (show w7.ownsRow (w.heap.size + 1) 3 1 (.slice (some ⟨g7, 0, none⟩) (i + 1) cap7) (i + 1) (((valsN cs).take (i + 1)).map (Value.int .i64)) from ownsRow_cast hp.1 rfl (by rw [← ints_snoc _ _ (by rw [Hlv.out]; omega), ← Hx.out, List.map_take]))
        clear hp o7 b7
        go_wp2
        go_roundw
        case rel => exact ⟨i + 1, _, by omega, by go_num, Own7.out, R7.out, Lib.hid HH6.out.right, Lib.hid (by rw [HT6.out, List.length_append]; omega), O7.out, K7.out, Z7.out, by omega⟩
        case measure => simp [intOf] <;> omega
      · obtain rfl : i = O := by omega
        clear hown hr5 ho5 hk5 hz5
        go_wp2
        go_loopw [8, 9] (fun v q wr => ∃ (m pos : Nat), i ≤ m ∧ m ≤ n ∧ q = .int .i64 m ∧ wr.ownsRow (w.heap.size + 1) 3 1 v m (((valsN cs).take m).map (Value.int .i64)) ∧ RdIs wr b s pos ∧ Hid (Holds s pos (lvlsN i m ((valsN cs).drop m) ++ REST)) ∧ Hid (T = pos + (lvlsN i m ((valsN cs).drop m) ++ REST).length) ∧ Only [b] w wr ∧ LrIs wr kb b ∧ wr.heap[w.heap.size]? = some (.cells (zrow N (.int .i64 0)) 3 (0, 0)) ∧ w.heap.size + 1 ≤ wr.heap.size) (fun _ q _ => n - (intOf q).toNat)
        case atStart => exact ⟨i, pos, Nat.le_refl _, hOn, rfl, HOwn.out, R5.out, hH5, hT5, HO5.out, HK5.out, HZ5.out, hs5⟩
        case round =>
          obtain ⟨m, pos2, him, hmn, rfl, hown, hr6, hH6, hT6, ho6, hk6, hz6, hs6⟩ := hrel
          have HOwn := Lib.hid hown
          have R6 := Lib.hid hr6
          have HO6 := Lib.hid ho6
          have HK6 := Lib.hid hk6
          have HZ6 := Lib.hid hz6
          by_cases hlt2 : m < n
          · have hdr := lvlsN_drop i (valsN cs) 0 m (by rw [Hlv.out]; omega)
            simp only [Nat.zero_add] at hdr
            have hH7 := hH6.out
            have hT7 := hT6.out
            rw [hdr, List.append_assoc, lvlN_near i m _ him] at hH7 hT7
            have hv := hVr.out m hlt2
            have hnz : nearN (((m : Int) == (i : Int)) && decide ((i : Int) < 3)) ((valsN cs).getD m 0) ≠ 0 := by
              by_cases hnr : m = i ∧ i < 3
              · have e1 : (((m : Int) == (i : Int)) && decide ((i : Int) < 3)) = true := by rw [decide_eq_true (by omega), Bool.and_true]; simp [hnr.1]
                rw [e1, hnr.1]
                have h9 := hOs.out hnr.2 (by omega)
                have h8 := hVr.out i (by omega)
                have e2 : nearN true ((valsN cs).getD i 0) = (if 0 < (valsN cs).getD i 0 then (valsN cs).getD i 0 - 1 else (valsN cs).getD i 0 + 1) := rfl
                rw [e2]
                split <;> omega
              · have e1 : (((m : Int) == (i : Int)) && decide ((i : Int) < 3)) = false := by
                  by_cases h2 : m = i
                  · rw [decide_eq_false (by omega), Bool.and_false]
                  · rw [show ((m : Int) == (i : Int)) = false by simp; omega, Bool.false_and]
                rw [e1]
                exact hv.2.2
            obtain ⟨x, hx⟩ : ∃ x, x = (valsN cs).getD m 0 := ⟨_, rfl⟩
            rw [← hx] at hH7 hT7 hv hnz
            have HH7 := Lib.hid hH7
            have HT7 := Lib.hid hT7
            have Hx := Lib.hid hx
            have Hv := Lib.hid hv
            have Hnz := Lib.hid hnz
            have hor : (((m : Int) == (i : Int)) = true ∧ (i : Int) < 3) ∨ (((m : Int) == (i : Int)) = true ∧ (3 : Int) ≤ i) ∨ ((m : Int) == (i : Int)) = false := by
              by_cases h2 : (m : Int) = (i : Int)
              · have e : ((m : Int) == (i : Int)) = true := by simp [h2]
                rcases Int.lt_or_le (i : Int) 3 with h3 | h3
                · exact .inl ⟨e, h3⟩
                · exact .inr (.inl ⟨e, h3⟩)
              · exact .inr (.inr (by simpa using h2))
            clear hH6 hT6 hH7 hT7 hdr hx hv hnz hown hr6 ho6 hk6 hz6
            obtain ⟨nr, hnr⟩ : ∃ nr, nr = (((m : Int) == (i : Int)) && decide ((i : Int) < 3)) := ⟨_, rfl⟩
            rw [← hnr] at HH7 HT7 Hnz
            rcases hor with ⟨h1, h2⟩ | ⟨h1, h2⟩ | h1
            all_goals
              first | rw [h1, decide_eq_true h2] at hnr | rw [h1, decide_eq_false (by omega)] at hnr | rw [h1] at hnr
              simp only [Bool.and_true, Bool.and_false, Bool.false_and] at hnr
              subst hnr
              go_wp2_with fail
              try rw [decide_eq_false (show ¬ (i : Int) < 3 by omega)]
              refine (lv_level kb b s pos2 _ x wr HK6.out R6.out HH7.out.left ⟨Hv.out.1, Hv.out.2.1⟩ Hv.out.2.2 Hnz.out hs).mono ?_
              rintro r w6 ⟨rfl, h6, o6⟩
              have R6 := Lib.hid h6
              have O6 : Hid (Only [b] w w6) := Lib.hid (HO6.out.trans o6)
              have hsz6 := o6.size
              have K6 : Hid (LrIs w6 kb b) := Lib.hid (HK6.out.only o6 (by simpa using hkb))
              have Z6 : Hid (w6.heap[w.heap.size]? = some (.cells (zrow N (.int .i64 0)) 3 (0, 0))) := Lib.hid (o6.heap HZ6.out (by simp; omega))
              have Own6 := Lib.hid (own_reader (w' := w6) HOwn.out o6 (by omega))
              clear h6 o6 h1
              try clear h2
              go_wp2_with (at_builtin; refine wpList_push rfl _ _ rfl elt64 (w.heap.size + 1) _ _ _ _ Own6.out rfl rfl (by simp) rfl (by omega) (by decide) (by omega) ?_)
              intro g7 cap7 w7 hp
              obtain ⟨o7, b7⟩ := pushed_only hp Own6.out
              have O7 : Hid (Only [b] w w7) := Lib.hid (O6.out.trans' o7 (fun i hi => .inr (by have := (b7 i (by simpa using hi)).1; omega)))
              have R7 := Lib.hid (R6.out.only o7 (fun e => by have := (b7 b (by simpa using e)).1; omega))
              have K7 : Hid (LrIs w7 kb b) := Lib.hid (K6.out.only o7 (fun e => by have := (b7 kb (by simpa using e)).1; omega))
              have Z7 : Hid (w7.heap[w.heap.size]? = some (.cells (zrow N (.int .i64 0)) 3 (0, 0))) := Lib.hid (o7.heap Z6.out (fun e => by have := (b7 w.heap.size (by simpa using e)).1; omega))
              have hsz7 := o7.size
              have Own7 := Lib.hid (show w7.ownsRow (w.heap.size + 1) 3 1 (.slice (some ⟨g7, 0, none⟩) (m + 1) cap7) (m + 1) (((valsN cs).take (m + 1)).map (Value.int .i64)) from ownsRow_cast hp.1 rfl (by rw [← ints_snoc _ _ (by rw [Hlv.out]; omega), ← Hx.out, List.map_take]))
              clear hp o7 b7
              go_wp2
              go_roundw
              case rel => exact ⟨m + 1, _, by omega, by omega, by go_num, Own7.out, R7.out, Lib.hid HH7.out.right, Lib.hid (by rw [HT7.out, List.length_append]; omega), O7.out, K7.out, Z7.out, by omega⟩
              case measure => simp [intOf] <;> omega
          · obtain rfl : m = n := by omega
            have hdn : (valsN cs).drop m = [] := List.drop_eq_nil_of_le (by rw [Hlv.out]; exact Nat.le_refl _)
            have hH7 := hH6.out
            have hT7 := hT6.out
            rw [hdn, show lvlsN i m [] = [] from rfl, List.nil_append, HREST.out] at hH7 hT7
            rw [List.length_append, ← Nat.add_assoc] at hT7
            obtain ⟨ao, capv, rfl, hu⟩ := owned_any hown
            obtain ⟨gv, rfl, hgv1, hgv2, hgv3⟩ := hu (by omega)
            have hPk : Hid (∀ j, j < m → (placesN cs).getD j 0 < N) := Lib.hid (fun j hj => by rw [HN.out]; exact (nzTo_fall cs cs.length j (by have := Hn.out; unfold placesN at this; omega)).2.1)
            have Hfall : Hid (∀ j, j < m → m - 1 - j ≤ (placesN cs).getD j 0 ∧ (j + 1 < m → (placesN cs).getD (j + 1) 0 < (placesN cs).getD j 0)) := Lib.hid (fun j hj => by
              have h1 := nzTo_fall cs cs.length j (by have := Hn.out; unfold placesN at this; omega)
              rw [show nzTo cs cs.length = placesN cs from rfl, ← Hn.out] at h1
              exact ⟨h1.1, h1.2.2⟩)
            have hm0 : 0 < m := by omega
            have hf0 := Hfall.out 0 hm0
            have hp0 := hPk.out 0 hm0
            obtain ⟨pp, hpp⟩ : ∃ pp, pp = (placesN cs).getD 0 0 := ⟨_, rfl⟩
            rw [← hpp] at hH7 hT7 hf0 hp0
            have hf1 := hf0.1
            obtain ⟨L, hL⟩ : ∃ L, L = pp + 1 - m := ⟨_, rfl⟩
            rw [← hL] at hH7 hT7
            have hDi : ((N : Int) - (m : Int)) = ((N - m : Nat) : Int) := by omega
            have hAt : ((L : Int) + (m : Int) - 1) = (pp : Int) := by omega
            have hLk : L ≤ N - m := by omega
            have hVc : Hid (∀ j, j < m → wr.cell? ⟨gv, j, none⟩ = some (.int .i64 ((valsN cs).getD j 0))) := Lib.hid (fun j hj => by
              rw [hgv3 j hj, List.getElem?_map, List.getElem?_take_of_lt (by omega), List.getElem?_eq_getElem (by rw [Hlv.out]; exact hj)]
              simp [List.getD, List.getElem?_eq_getElem (show j < (valsN cs).length by rw [Hlv.out]; exact hj)])
            have HDi := Lib.hid hDi
            have HAt := Lib.hid hAt
            have HH7 := Lib.hid hH7
            have HT7 := Lib.hid hT7
            have HL := Lib.hid hL
            have Hpp := Lib.hid hpp
            have HZz : Hid (wr.heap[w.heap.size]? = some (.cells (ints (outN cs 0)) 3 (0, 0))) := Lib.hid (by rw [hz6, ints_replicate, HN.out, outN_zero])
            have hL16 : L ≤ 16 := by omega
            have hpp16 : pp ≤ 16 := by omega
            clear hown hr6 ho6 hk6 hz6 hu hgv3 hf0 hf1 hpp hL hDi hAt hH7 hT7 hdn hH6 hT6 HOwn HZ6 hp0
            go_wp2_with fail
            rw [HDi.out]
            refine (lv_rte kb b s pos2 L (N - m) wr HK6.out R6.out HH7.out.left hLk (by omega) hs).mono ?_
            rintro r w7 ⟨rfl, h7, o7⟩
            have R7 := Lib.hid h7
            have O7 : Hid (Only [b] w w7) := Lib.hid (HO6.out.trans o7)
            have hsz7 := o7.size
            have K7 : Hid (LrIs w7 kb b) := Lib.hid (HK6.out.only o7 (by simpa using hkb))
            have Z7 : Hid (w7.heap[w.heap.size]? = some (.cells (ints (outN cs 0)) 3 (0, 0))) := Lib.hid (o7.heap HZz.out (by simp; omega))
            have V7 : Hid (∀ j, j < m → w7.cell? ⟨gv, j, none⟩ = some (.int .i64 ((valsN cs).getD j 0))) := Lib.hid (fun j hj => o7.cell (hVc.out j hj) (by simp; omega))
            clear h7 o7 HZz hVc
            go_wp2
            rw [HAt.out]
            go_loopw [10, 11, 74] (fun l a q wr => ∃ (j L2 pos3 : Nat) (z : Int), j ≤ m ∧ l = .int .i64 L2 ∧ a = .int .i64 z ∧ q = .int .i64 j ∧ Hid (j < m → z = (placesN cs).getD j 0) ∧ Hid (j < m → L2 = (placesN cs).getD j 0 - (m - 1 - j)) ∧ RdIs wr b s pos3 ∧ Hid (Holds s pos3 (runsN L2 ((placesN cs).drop j))) ∧ Hid (T = pos3 + (runsN L2 ((placesN cs).drop j)).length) ∧ Only [b] w wr ∧ LrIs wr kb b ∧ wr.heap[w.heap.size]? = some (.cells (ints (outN cs j)) 3 (0, 0)) ∧ Hid (∀ j, j < m → wr.cell? ⟨gv, j, none⟩ = some (.int .i64 ((valsN cs).getD j 0))) ∧ L2 ≤ 16 ∧ -100 ≤ z ∧ z ≤ 100) (fun _ _ q _ => m - (intOf q).toNat)
            case atStart => exact ⟨0, L, _, pp, Nat.zero_le _, rfl, rfl, rfl, Lib.hid (fun _ => by rw [← Hpp.out]), Lib.hid (fun _ => by rw [← Hpp.out, HL.out]; omega), R7.out, Lib.hid (by rw [List.drop_zero]; exact HH7.out.right), Lib.hid (by rw [List.drop_zero]; exact HT7.out), O7.out, K7.out, Z7.out, V7, hL16, by omega, by omega⟩
            case round =>
              obtain ⟨j, L2, pos3, z, hj, rfl, rfl, rfl, hz8, hL8, hr8, hH8, hT8, ho8, hk8, hg8, hV8, hL28, hz81, hz82⟩ := hrel
              have R8 := Lib.hid hr8
              have O8 := Lib.hid ho8
              have K8 := Lib.hid hk8
              have G8 := Lib.hid hg8
              have hsz8 := ho8.size
              by_cases hjm : j < m
              · have hze := hz8.out hjm
                have hLe := hL8.out hjm
                have hpj := hPk.out j hjm
                have cv := hV8.out j hjm
                have hfj := Hfall.out j hjm
                have hst := outN_step cs j (by rw [← Hn.out]; exact hjm)
                rw [← valsN_at cs j (by rw [← Hn.out]; exact hjm)] at hst
                have hdr := runsN_drop (placesN cs) L2 j
                have hH9 := hH8.out
                have hT9 := hT8.out
                obtain ⟨pj, hpje⟩ : ∃ pj, pj = (placesN cs).getD j 0 := ⟨_, rfl⟩
                rw [← hpje] at hze hLe hpj hst hdr hfj
                obtain ⟨x, hx⟩ : ∃ x, x = (valsN cs).getD j 0 := ⟨_, rfl⟩
                rw [← hx] at cv hst
                subst hze
                have hol : (outN cs j).length = N := by rw [outN_length, HN.out]
                have c8 : wr.cell? ⟨w.heap.size, pj, none⟩ = some (.int .i64 ((outN cs j).getD pj 0)) := by rw [cells_of hg8]; exact ints_at _ _ (by rw [hol]; exact hpj)
                have f8 := free_of hg8 pj
                have hset : (wr.setCell ⟨w.heap.size, pj, none⟩ (.int .i64 x)).heap[w.heap.size]? = some (.cells (ints (outN cs (j + 1))) 3 (0, 0)) := by
                  rw [heap_set_same _ hg8, ints_setIf, hst]
                have hos : Only [w.heap.size] wr (wr.setCell ⟨w.heap.size, pj, none⟩ (.int .i64 x)) := (Only.refl _ _).setCell (.inl (by simp)) _
                have G9 := Lib.hid hset
                have R9 := Lib.hid (R8.out.only hos (by simp; omega))
                have K9 := Lib.hid (K8.out.only hos (by simp; omega))
                have O9 : Hid (Only [b] w (wr.setCell ⟨w.heap.size, pj, none⟩ (.int .i64 x))) := Lib.hid (O8.out.trans' hos (fun i hi => .inr (by simp at hi; omega)))
                have V9 : Hid (∀ j, j < m → (wr.setCell ⟨w.heap.size, pj, none⟩ (.int .i64 x)).cell? ⟨gv, j, none⟩ = some (.int .i64 ((valsN cs).getD j 0))) := Lib.hid (fun j hj => hos.cell (hV8.out j hj) (by simp; omega))
                have HH9 := Lib.hid hH9
                have HT9 := Lib.hid hT9
                have Hdr := Lib.hid hdr
                have HLe := Lib.hid hLe
                have Hpj := Lib.hid hpje
                have Hfj := Lib.hid hfj
                clear hz8 hL8 hr8 hH8 hT8 ho8 hk8 hg8 hV8 hH9 hT9 hdr hLe hpje hfj hst hset hos hx G8 R8 K8 O8
                by_cases hgo : j + 1 < m ∧ 0 < L2
                · obtain ⟨hg1, hg2⟩ := hgo
                  have hlt9 := Hfj.out.2 hg1
                  have hfk := (Hfall.out (j + 1) hg1).1
                  have hd9 := Hdr.out (by have := Hn.out; omega) (by omega)
                  obtain ⟨pb, hpb⟩ : ∃ pb, pb = (placesN cs).getD (j + 1) 0 := ⟨_, rfl⟩
                  rw [← hpb] at hlt9 hfk hd9
                  obtain ⟨R, hR⟩ : ∃ R, R = pj - pb - 1 := ⟨_, rfl⟩
                  rw [← hR] at hd9
                  have hle := HLe.out
                  have hRL : R ≤ L2 := by omega
                  have hte : tezN R L2 = teN R L2 := by unfold tezN; rw [if_neg (by omega)]
                  have hHa := HH9.out
                  have hTa := HT9.out
                  rw [hd9, ← hte] at hHa hTa
                  have hz9 : (pj : Int) - 1 - (R : Int) = (pb : Int) := by omega
                  have hL9 : (L2 : Int) - (R : Int) = ((L2 - R : Nat) : Int) := by omega
                  have hL4 : L2 - R = pb - (m - 1 - (j + 1)) := by omega
                  have hpb16 : pb ≤ 16 := by omega
                  have HHa := Lib.hid hHa
                  have HTa := Lib.hid hTa
                  have Hz9 := Lib.hid hz9
                  have HL9 := Lib.hid hL9
                  have HL4 := Lib.hid hL4
                  have Hpb := Lib.hid hpb
                  clear hlt9 hfk hd9 hpb hR hle hte hHa hTa hz9 hL9 hL4 HH9 HT9 Hdr HLe Hfj
                  go_wp2_with fail
                  clear c8 f8 cv
                  generalize wr.setCell ⟨w.heap.size, pj, none⟩ (.int .i64 x) = w8 at *
                  refine (lv_rte kb b s pos3 R L2 w8 K9.out R9.out HHa.out.left hRL hL28 hs).mono ?_
                  rintro r w9 ⟨rfl, h9, o9⟩
                  have Ra := Lib.hid h9
                  have Oa : Hid (Only [b] w w9) := Lib.hid (O9.out.trans o9)
                  have Ka : Hid (LrIs w9 kb b) := Lib.hid (K9.out.only o9 (by simpa using hkb))
                  have Ga : Hid (w9.heap[w.heap.size]? = some (.cells (ints (outN cs (j + 1))) 3 (0, 0))) := Lib.hid (o9.heap G9.out (by simp; omega))
                  have Va : Hid (∀ j, j < m → w9.cell? ⟨gv, j, none⟩ = some (.int .i64 ((valsN cs).getD j 0))) := Lib.hid (fun j hj => o9.cell (V9.out j hj) (by simp; omega))
                  clear h9 o9
                  go_wp2
                  rw [Hz9.out, HL9.out]
                  go_roundw
                  case rel => exact ⟨j + 1, L2 - R, _, pb, by omega, rfl, rfl, by go_num, Lib.hid (fun _ => by rw [← Hpb.out]), Lib.hid (fun _ => by rw [← Hpb.out]; exact HL4.out), Ra.out, Lib.hid HHa.out.right, Lib.hid (by rw [HTa.out, List.length_append]; omega), Oa.out, Ka.out, Ga.out, Va, by omega, by omega, by omega⟩
                  case measure => simp [intOf] <;> omega
                · have hend : runsN L2 ((placesN cs).drop j) = [] := runsN_end _ _ _ (by have := Hn.out; omega)
                  have hend2 : runsN L2 ((placesN cs).drop (j + 1)) = [] := runsN_end _ _ _ (by have := Hn.out; omega)
                  have hHb : Hid (Holds s pos3 (runsN L2 ((placesN cs).drop (j + 1)))) := Lib.hid (by rw [hend2, ← hend]; exact HH9.out)
                  have hTb : Hid (T = pos3 + (runsN L2 ((placesN cs).drop (j + 1))).length) := Lib.hid (by rw [hend2, ← hend]; exact HT9.out)
                  have hzb : Hid (j + 1 < m → ((pj : Int) - 1) = (placesN cs).getD (j + 1) 0) := Lib.hid (fun h1 => by
                    have h2 := Hfj.out
                    have h3 := (Hfall.out (j + 1) h1).1
                    have h4 := h2.2 h1
                    have h5 := HLe.out
                    omega)
                  have hLb : Hid (j + 1 < m → L2 = (placesN cs).getD (j + 1) 0 - (m - 1 - (j + 1))) := Lib.hid (fun h1 => by
                    have h2 := Hfj.out
                    have h3 := (Hfall.out (j + 1) h1).1
                    have h4 := h2.2 h1
                    have h5 := HLe.out
                    omega)
                  have hor : ((m : Int) ≤ (j : Int) + 1) ∨ ((j : Int) + 1 < m ∧ (L2 : Int) ≤ 0) := by omega
                  clear hend hend2 hgo HH9 HT9 Hdr HLe Hfj
                  rcases hor with h1 | ⟨h1, h2⟩
                  all_goals
                    go_wp2
                    go_roundw
                    case rel => exact ⟨j + 1, L2, pos3, (pj : Int) - 1, by omega, rfl, rfl, by go_num, hzb, hLb, R9.out, hHb, hTb, O9.out, K9.out, G9.out, V9, hL28, by omega, by omega⟩
                    case measure => simp [intOf] <;> omega
              · obtain rfl : j = m := by omega
                have hTb : T = pos3 := by
                  have := hT8.out
                  rw [runsN_end _ _ _ (.inr (by have := Hn.out; omega))] at this
                  simpa using this
                have HTb := Lib.hid hTb
                have G9 : Hid (wr.heap[w.heap.size]? = some (.cells (ints cs) 3 (0, 0))) := Lib.hid (by rw [hg8, Hn.out, outN_all])
                clear hz8 hL8 hr8 hH8 hT8 ho8 hk8 hg8 hV8 hTb
                go_wp2
                go_ret
                exact ⟨_, rfl, G9.out, Nat.le_refl _, by rw [HTb.out]; exact R8.out, O8.out⟩
end Go.Proofs.YtcppbdlmcbjmeaaGreatDoor

namespace Go.Proofs.YtcppbdlmcbjmeaaGreatDoor
open Go.RowKit

/-- The deferred closure of a call that returns finds no panic. -/
theorem lget_idle (pt pv pe pb : Value) (w : World) :
    CallsD Tryz.prog 269 #[pb, pt, pv, pe] .returning w fun e u' w' => e = .returned (.tuple #[]) ∧ u' = .returning ∧ w' = w := by
  refine callsD_of_wpS Tryz.func269 rfl fun c₀ cs hu => ?_
  apply wpS_seq
  apply wpS_region
  simp [wpOpsS, go_sem, recoverD, hu, Tryz.ntmps269, Exit.thenS]
  apply wpS_seq
  apply wpS_region
  simp [wpOpsS, go_sem, Exit.thenS]
  refine wpS_cond (t := false) (by simp [Act.eval, Array.replicate]) ?_
  simp only [Bool.false_eq_true, if_false]
  refine wpS_of_wp (wp_skip ?_)
  cases c₀
  simp_all [bodyPostS, results, Tryz.results269]
set_option maxRecDepth 100000 in
set_option maxHeartbeats 1600000 in
theorem lv_get (b : Nat) (s : ByteArray) (p : Nat) (cs : List Int) (w : World) (h : RdIs w b s p) (hH : Holds s p (levN cs)) (hsz : cs.length = 4 ∨ cs.length = 15 ∨ cs.length = 16) (hr : rangeB cs = true) (hs : s.size ≤ 140737488355328) :
    Calls Tryz.prog 265 #[.pointer (some ⟨b, 0, none⟩), .int .i64 cs.length] w fun r w' => ∃ g, r = .returned (.tuple #[.slice (some ⟨g, 0, none⟩) cs.length cs.length, .int .i64 0]) ∧ w'.heap[g]? = some (.cells (ints cs) 3 (0, 0)) ∧ w.heap.size ≤ g ∧ RdIs w' b s (p + (levN cs).length) ∧ Only [b] w w' := by
  have hmf : ∀ (fn : Fn) (first cap : Array Value) (w : World), (Instr.makeFunc fn first cap).run Tryz.prog w = .ok (.func fn first cap) w := fun _ _ _ _ => rfl
  have hszB : sizeB (cs.length : Int) = true := by
    unfold sizeB
    rcases hsz with h | h | h <;> rw [h] <;> rfl
  have H := Lib.hid h
  have HH := Lib.hid hH
  have Hsz := Lib.hid hsz
  have hbs := lt_of_block h
  have hb0 : w.cell? ⟨b, 0, none⟩ = some (.string s) := by rw [cells_of h]; rfl
  have hb1 : w.cell? ⟨b, 1, none⟩ = some (.int .i64 p) := by rw [cells_of h]; rfl
  obtain ⟨N, hN⟩ : ∃ N, N = cs.length := ⟨_, rfl⟩
  rw [← hN] at hszB ⊢
  have HN := Lib.hid hN
  clear h hH hsz hN
  go_enter_defers Tryz.func265, Tryz.ntmps265
  go_wp2_with fail
  refine (lv_size _ _).mono ?_
  rintro r w1 ⟨rfl, rfl⟩
  rw [hszB]
  obtain ⟨wA, hwA⟩ : ∃ wA, wA = ((w.alloc (.cells #[.pointer (some ⟨b, 0, none⟩)] 114)).alloc (.cells #[.slice none 0 0] 64)).alloc (.cells #[.int .i64 0] 32) := ⟨_, rfl⟩
  have oA : Only [] w wA := by rw [hwA]; exact (((Only.refl _ w).alloc _).alloc _).alloc _
  have a0 : wA.heap[w.heap.size]? = some (.cells #[.pointer (some ⟨b, 0, none⟩)] 114 (0, 0)) := by rw [hwA]; exact heap_alloc_lt _ (heap_alloc_lt _ (heap_alloc_at w _))
  have a1 : wA.heap[w.heap.size + 1]? = some (.cells #[.slice none 0 0] 64 (0, 0)) := by
    rw [hwA]
    have := heap_alloc_at (w.alloc (.cells #[.pointer (some ⟨b, 0, none⟩)] 114)) (.cells #[.slice none 0 0] 64)
    exact heap_alloc_lt _ (by simpa using this)
  have a2 : wA.heap[w.heap.size + 1 + 1]? = some (.cells #[.int .i64 0] 32 (0, 0)) := by
    rw [hwA]
    have := heap_alloc_at ((w.alloc (.cells #[.pointer (some ⟨b, 0, none⟩)] 114)).alloc (.cells #[.slice none 0 0] 64)) (.cells #[.int .i64 0] 32)
    simpa using this
  have sA : wA.heap.size = w.heap.size + 1 + 1 + 1 := by rw [hwA]; simp
  rw [← hwA]
  have RA := H.out.only oA (by simp)
  have rb0 : wA.cell? ⟨b, 0, none⟩ = some (.string s) := by rw [cells_of RA]; rfl
  have rb1 : wA.cell? ⟨b, 1, none⟩ = some (.int .i64 p) := by rw [cells_of RA]; rfl
  have rt : wA.cell? ⟨w.heap.size, 0, none⟩ = some (.pointer (some ⟨b, 0, none⟩)) := by rw [cells_of a0]; rfl
  have HRA := Lib.hid RA
  have HoA := Lib.hid oA
  have A0 := Lib.hid a0
  have A1 := Lib.hid a1
  have A2 := Lib.hid a2
  have SA := Lib.hid sA
  have rt2 : (wA.alloc (.cells #[.string s, .int .i64 p] 168)).cell? ⟨w.heap.size, 0, none⟩ = some (.pointer (some ⟨b, 0, none⟩)) := ((Only.refl [] wA).alloc _).cell rt (by simp)
  clear hwA oA a0 a1 a2 RA sA hb0 hb1
  go_wp2_with fail
  obtain ⟨wB, hwB⟩ : ∃ wB, wB = (wA.alloc (.cells #[.string s, .int .i64 p] 168)).alloc (.cells #[.pointer (some ⟨b, 0, none⟩)] 360) := ⟨_, rfl⟩
  have oB : Only [] wA wB := by rw [hwB]; exact ((Only.refl _ wA).alloc _).alloc _
  have kB : LrIs wB (wA.heap.size + 1) b := by
    rw [hwB]
    have := heap_alloc_at (wA.alloc (.cells #[.string s, .int .i64 p] 168)) (.cells #[.pointer (some ⟨b, 0, none⟩)] 360)
    simpa [LrIs] using this
  rw [← hwB]
  have HB := Lib.hid (HRA.out.only oB (by simp))
  have B0 := Lib.hid (oB.heap A0.out (by simp))
  have B1 := Lib.hid (oB.heap A1.out (by simp))
  have B2 := Lib.hid (oB.heap A2.out (by simp))
  have KB := Lib.hid kB
  have OB := Lib.hid (HoA.out.trans oB)
  have sB := oB.size
  have sA2 := SA.out
  clear hwB oB kB rb0 rb1 rt rt2 A0 A1 A2
  have hblk := lv_block (wA.heap.size + 1) b s p cs wB KB.out HB.out HH.out Hsz.out hr hs
  rw [← HN.out] at hblk
  refine hblk.mono ?_
  clear hblk
  rintro r w1 ⟨g, rfl, h1, h2, h3, h4⟩
  have n0 : w.heap.size ∉ [b] := by simp; omega
  have n1 : w.heap.size + 1 ∉ [b] := by simp; omega
  have n2 : w.heap.size + 1 + 1 ∉ [b] := by simp; omega
  have C1 := h4.heap B1.out n1
  have C2 := h4.heap B2.out n2
  have cv := cells_of C1 0
  have zv := free_of C1 0
  have ce := cells_of C2 0
  have ze := free_of C2 0
  have H1 := Lib.hid h1
  have H3 := Lib.hid h3
  have O1 : Hid (Only [b] w w1) := Lib.hid ((OB.out.mono (T := [b]) (by simp)).trans h4)
  have HC1 := Lib.hid C1
  have HC2 := Lib.hid C2
  clear h1 h3 h4 C1 C2
  go_wp2
  refine leaves_cons (f := 269) (args := #[.pointer (some ⟨w.heap.size + 1 + 1 + 1, 0, none⟩), .pointer (some ⟨w.heap.size, 0, none⟩), .pointer (some ⟨w.heap.size + 1, 0, none⟩), .pointer (some ⟨w.heap.size + 1 + 1, 0, none⟩)]) (by simp) (by simp [go_sem]) ?_
  refine (lget_idle _ _ _ _ _).mono ?_
  rintro e u' w'' ⟨rfl, rfl, rfl⟩
  have f1 := heap_set_other (b := w.heap.size + 1 + 1) (i := 0) (.int .i64 0) (heap_set_same (i := 0) (.slice (some ⟨g, 0, none⟩) N N) HC1.out) (by omega)
  have f2 := heap_set_same (i := 0) (.int .i64 0) (heap_set_other (b := w.heap.size + 1) (i := 0) (.slice (some ⟨g, 0, none⟩) N N) HC2.out (by omega))
  have o4 : Only [w.heap.size + 1, w.heap.size + 1 + 1] w1 ((w1.setCell ⟨w.heap.size + 1, 0, none⟩ (.slice (some ⟨g, 0, none⟩) N N)).setCell ⟨w.heap.size + 1 + 1, 0, none⟩ (.int .i64 0)) := ((Only.refl _ w1).setCell (.inl (by simp)) _).setCell (.inl (by simp)) _
  generalize (w1.setCell ⟨w.heap.size + 1, 0, none⟩ (.slice (some ⟨g, 0, none⟩) N N)).setCell ⟨w.heap.size + 1 + 1, 0, none⟩ (.int .i64 0) = w4 at *
  have cv4 : w4.cell? ⟨w.heap.size + 1, 0, none⟩ = some (.slice (some ⟨g, 0, none⟩) N N) := by rw [cells_of f1]; rfl
  have ce4 : w4.cell? ⟨w.heap.size + 1 + 1, 0, none⟩ = some (.int .i64 0) := by rw [cells_of f2]; rfl
  have sA3 := SA.out
  have hg4 := o4.heap H1.out (by simp; omega)
  have hr4 := H3.out.only o4 (by simp; omega)
  have ho4 : Only [b] w w4 := O1.out.trans' o4 (by simp; omega)
  simp [Leaves, settle, results, Tryz.results265, go_sem, cv4, ce4]
  exact ⟨hg4, by omega, hr4, ho4⟩
end Go.Proofs.YtcppbdlmcbjmeaaGreatDoor
