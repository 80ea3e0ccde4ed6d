/-
  The walk over the document's Code: a block by the engine (package zoetroperef7).
-/
import Derived.Test.YtgmnkihldlajcaaGreatDoorRefSig
namespace Go.Proofs.YtgmnkihldlajcaaGreatDoor
open Go.RowKit

theorem bits17b (v : Int) (h0 : 0 ≤ v) (h1 : v ≤ 65535) : bitsE 17 v 1 = 0 := by
  unfold bitsE
  rw [kinds8.2.2.2, if_pos (by simp [mayOf]; omega)]
theorem coef_zero (cs : List Int) (cat : Int) (p g : Nat) (h : cs.getD p 0 = 0) : coefDeeds cs cat (nzDown cs (p + 1)) g = coefDeeds cs cat (nzDown cs p) g := by
  rw [nzDown, if_neg (by simpa using h)]
theorem coef_more (cs : List Int) (cat : Int) (p g A : Nat) (h : (cs.getD p 0).natAbs = A) (h0 : 1 ≤ A) : coefDeeds cs cat (nzDown cs (p + 1)) g =
    elemDeeds 17 (rankOf cat g) ((A : Int) - 1) 1 ++ (Deed.byp (flagOf (decide (cs.getD p 0 < 0))) :: coefDeeds cs cat (nzDown cs p) (if 1 < A then g + 1 else g)) := by
  have hne : cs.getD p 0 ≠ 0 := by intro e; rw [e] at h; simp at h; omega
  rw [nzDown, if_pos hne, coefDeeds, h]

set_option maxRecDepth 100000 in
set_option maxHeartbeats 16000000 in
theorem refcode_good {w0 w : World} {b tb sb : Nat} {ov : Value} {e : Enc} (h : RefAt w0 w b tb sb ov e) (hl : e.Live) (hst : e.st.length = 256) (v : Value) (cs : List Int) (cat inc : Int) (hv : IntSlice w0 v cs)
    (hc : e.cost < 400000000) (hm : mayB cs.length cat inc = true) (hr : rangeB cs = true) :
    Calls Tryz.prog 11 #[.pointer (some ⟨b, 0, none⟩), v, .int .i64 cat, .int .i64 inc] w fun r w' => r = .returned (.int .i64 0) ∧ ∃ ov', RefAt w0 w' b tb sb ov' (e.run (sigDeeds cs cat inc)) ∧ EncGo w w' b sb ov ov' := by
  obtain ⟨hsz, m1, m2, m3, m4⟩ := mayB_spec hm
  have hsb : sizeB cs.length = true := decide_eq_true hsz
  obtain ⟨N, hn⟩ : ∃ N, N + 1 = cs.length := ⟨cs.length - 1, by omega⟩
  have hN16 : N ≤ 15 := by omega
  have hw : IntSlice w v cs := hv.only h.on (by simp)
  obtain ⟨ao, cap0, rfl, hv0⟩ := hv
  obtain ⟨g0, off, rfl, hv⟩ : ∃ g off, ao = some ⟨g, off, none⟩ ∧ ∀ i, i < cs.length → w0.cell? ⟨g, off + i, none⟩ = some (.int .i64 (cs.getD i 0)) := by
    rcases hv0 with rfl | h
    · simp at hn
    · exact h
  obtain ⟨-, -, -, -, -, -, c6, -⟩ := h.is.cellsAt
  rw [hl.going] at c6
  have hcl : e.cost + 8 * (sigDeeds cs cat inc ++ []).length < 500000000 := by
    have := sigDeeds_length cs cat inc (by omega)
    rw [List.append_nil]
    omega
  have hD : RefDo w0 w w b tb sb ov (e.run (sigDeeds cs cat inc)) (sigDeeds cs cat inc ++ []) :=
    ⟨ov, e, h, EncGo.refl _ _ _ _, hl, hst, hcl, by rw [List.append_nil]; exact sigDeeds_fits cs cat inc m1 m3, by rw [List.append_nil]⟩
  obtain ⟨eEnd, hE⟩ : ∃ E, E = e.run (sigDeeds cs cat inc) := ⟨_, rfl⟩
  rw [← hE] at hD ⊢
  have Hwi := Lib.hid (ref_within _ cs w hw (by omega))
  rw [hr] at Hwi
  have Hs := Lib.hid hsb
  have hlr := lastTo_range cs cs.length
  rw [← hn] at hv hsb hm Hwi Hs ⊢
  have D0 := Lib.hid hD
  have Hv := Lib.hid hv
  have Hr := Lib.hid (rangeB_at hr)
  have Hn := Lib.hid hn
  have Hlr : Hid (lastOf cs < ((N + 1 : Nat) : Int)) := Lib.hid (by unfold lastOf; rw [hn]; exact hlr.2)
  clear hv0 h hv hm hr hn hl hst hc hcl hsz hD hE hsb hw hlr
  go_enter Tryz.func11, Tryz.ntmps11
  go_wp2_with fail
  refine (ref_size ((N + 1 : Nat) : Int) w).mono ?_
  rintro r w1 ⟨rfl, rfl⟩
  rw [Hs.out]
  go_wp2_with fail
  refine Hwi.out.mono ?_
  rintro r w1 ⟨rfl, rfl⟩
  go_wp2
  go_loop [9, 10] (fun p q => ∃ k : Nat, k ≤ N + 1 ∧ q = .int .i64 k ∧ ∃ l : Int, p = .int .i64 l ∧ Hid (l = lastTo cs k)) (fun _ q => N + 1 - (intOf q).toNat)
  case atStart => exact ⟨0, Nat.zero_le _, rfl, -1, rfl, Lib.hid rfl⟩
  case round =>
    obtain ⟨k, hk, rfl, l, rfl, hlk⟩ := hrel
    by_cases hlt : k < N + 1
    · have c1 := D0.out.on.cell (Hv.out k hlt) (by simp)
      obtain ⟨x, hx⟩ : ∃ x, x = cs.getD k 0 := ⟨_, rfl⟩
      rw [← hx] at c1
      have Hx := Lib.hid hx
      clear hx
      by_cases h0 : x = 0
      · subst h0
        go_wp2
        go_round
        case rel => exact ⟨k + 1, by omega, by go_num, l, rfl, Lib.hid (by rw [lastTo, if_neg (by rw [← Hx.out]; simp)]; exact hlk.out)⟩
        case measure => simp [intOf] <;> omega
      · have hb0 : (x != 0) = true := by simp [h0]
        go_wp2
        go_round
        case rel => exact ⟨k + 1, by omega, by go_num, k, rfl, Lib.hid (by rw [lastTo, if_pos (by rw [← Hx.out]; exact h0)])⟩
        case measure => simp [intOf] <;> omega
    · obtain rfl : k = N + 1 := by omega
      have hll : l = lastOf cs := by rw [hlk.out, Hn.out]; rfl
      clear hlk
      by_cases hneg : l < 0
      · have hcd := D0.out
        unfold sigDeeds at hcd
        rw [if_neg (by rw [← hll]; omega)] at hcd
        have Hcd := Lib.hid hcd
        clear hcd hll
        go_wp2_with fail
        refine (ref_el 14 (2 * cat + inc) 0 (.inl kinds8.1) Hcd.out (bits15 _ _ kinds8.1 (.inl rfl)) (by omega) (by omega)).mono ?_
        rintro r w4 ⟨rfl, g1⟩
        have G1 := Lib.hid g1
        clear g1
        go_wp2
        go_ret
        obtain ⟨ov', e', q1, q2, -, -, -, -, q7⟩ := G1.out
        rw [show e' = eEnd from q7] at q1
        exact ⟨rfl, ov', q1, q2⟩
      · obtain ⟨L, hL⟩ := Int.eq_ofNat_of_zero_le (show 0 ≤ l by omega)
        subst hL
        have hLN : L ≤ N := by have := Hlr.out; omega
        have hcd := D0.out
        unfold sigDeeds at hcd
        rw [if_pos (by rw [← hll]; omega), List.append_assoc, List.append_assoc, coefDeeds_nz cs cat (by rw [← hll]; omega) (by have := Hn.out; omega), ← Hn.out, Nat.add_sub_cancel] at hcd
        have hrp : placeDeeds cs (lastOf cs) 0 N = restPlaces cs (lastOf cs) 0 (N - 0) := by unfold restPlaces; rw [if_pos (by rw [← hll]; omega), Nat.sub_zero]
        rw [hrp, show (lastOf cs + 1).toNat = L + 1 by rw [← hll]; omega] at hcd
        have Hcd := Lib.hid hcd
        have Hll := Lib.hid hll
        clear hcd hll hrp hneg
        go_wp2_with fail
        refine (ref_el 14 (2 * cat + inc) 1 (.inl kinds8.1) Hcd.out (bits15 _ _ kinds8.1 (.inr rfl)) (by omega) (by omega)).mono ?_
        rintro r w4 ⟨rfl, g1⟩
        have G1 := Lib.hid g1
        clear g1
        go_wp2
        go_loopw [11] (fun q wr => ∃ j : Nat, j ≤ N ∧ j ≤ L + 1 ∧ q = .int .i64 j ∧ RefDo w0 w wr b tb sb ov eEnd (restPlaces cs (lastOf cs) j (N - j) ++ (coefDeeds cs cat (nzDown cs (L + 1)) 0 ++ []))) (fun q _ => N - (intOf q).toNat)
        case atStart => exact ⟨0, Nat.zero_le _, Nat.zero_le _, rfl, G1.out⟩
        case round =>
          obtain ⟨j, hj, hjL, rfl, k1⟩ := hrel
          have K1 := Lib.hid k1
          clear k1
          by_cases hgo : j < N ∧ j ≤ L
          · obtain ⟨hjN, hjl⟩ := hgo
            have hstep : N - j = (N - (j + 1)) + 1 := by omega
            have hinc : 0 ≤ incAt j ∧ incAt j ≤ 7 := by unfold incAt; omega
            have Hinc := Lib.hid hinc
            have c1 := K1.out.on.cell (Hv.out j (by omega)) (by simp)
            obtain ⟨x, hx⟩ : ∃ x, x = cs.getD j 0 := ⟨_, rfl⟩
            rw [← hx] at c1
            by_cases h0 : x = 0
            · have hcd := K1.out
              rw [hstep, rest_zero cs j _ (by rw [← Hll.out]; omega) (by rw [← hx]; exact h0), List.append_assoc] at hcd
              have Hcd := Lib.hid hcd
              have hjL2 : j + 1 ≤ L + 1 := by omega
              subst h0
              clear hcd hx hinc hstep
              go_wp2_with fail
              refine (ref_el 15 (incAt j) 0 (.inl kinds8.2.1) Hcd.out (bits15 _ _ kinds8.2.1 (.inl rfl)) Hinc.out.1 Hinc.out.2).mono ?_
              rintro r w5 ⟨rfl, g1⟩
              have G2 := Lib.hid g1
              clear g1
              go_wp2
              go_roundw
              case rel => exact ⟨j + 1, by omega, hjL2, by go_num, G2.out⟩
              case measure => simp [intOf] <;> omega
            · have hb0 : (x == 0) = false := by simp [h0]
              by_cases he : j = L
              · subst he
                have hcd := K1.out
                rw [hstep, rest_last cs j _ (by rw [← Hll.out]) (by rw [← hx]; exact h0), List.append_assoc, List.append_assoc] at hcd
                have Hcd := Lib.hid hcd
                clear hcd hx hinc hstep h0
                go_wp2_with fail
                refine (ref_el 15 (incAt j) 1 (.inl kinds8.2.1) Hcd.out (bits15 _ _ kinds8.2.1 (.inr rfl)) Hinc.out.1 Hinc.out.2).mono ?_
                rintro r w5 ⟨rfl, g1⟩
                have G2 := Lib.hid g1
                clear g1
                go_wp2_with fail
                refine (ref_el 16 (incAt j) 1 (.inl kinds8.2.2.1) G2.out (bits15 _ _ kinds8.2.2.1 (.inr rfl)) Hinc.out.1 Hinc.out.2).mono ?_
                rintro r w6 ⟨rfl, g1⟩
                have G3 := Lib.hid g1
                clear g1
                go_wp2
                go_roundw
                case rel => exact ⟨j + 1, by omega, by omega, by go_num, G3.out⟩
                case measure => simp [intOf] <;> omega
              · have hcd := K1.out
                rw [hstep, rest_more cs j _ (by rw [← Hll.out]; omega) (by rw [← Hll.out]; omega) (by rw [← hx]; exact h0), List.append_assoc, List.append_assoc] at hcd
                have Hcd := Lib.hid hcd
                have hbe : ((j : Int) == (L : Int)) = false := by simp; omega
                clear hcd hx hinc hstep h0 he
                go_wp2_with fail
                refine (ref_el 15 (incAt j) 1 (.inl kinds8.2.1) Hcd.out (bits15 _ _ kinds8.2.1 (.inr rfl)) Hinc.out.1 Hinc.out.2).mono ?_
                rintro r w5 ⟨rfl, g1⟩
                have G2 := Lib.hid g1
                clear g1
                go_wp2_with fail
                refine (ref_el 16 (incAt j) 0 (.inl kinds8.2.2.1) G2.out (bits15 _ _ kinds8.2.2.1 (.inl rfl)) Hinc.out.1 Hinc.out.2).mono ?_
                rintro r w6 ⟨rfl, g1⟩
                have G3 := Lib.hid g1
                clear g1
                go_wp2
                go_roundw
                case rel => exact ⟨j + 1, by omega, by omega, by go_num, G3.out⟩
                case measure => simp [intOf] <;> omega
          · have hcd := K1.out
            rw [rest_end cs (lastOf cs) j (N - j) (by rw [← Hll.out]; omega), List.nil_append] at hcd
            have Hcd := Lib.hid hcd
            have hend : (N ≤ j) ∨ (j < N ∧ L < j) := by omega
            clear hcd hgo
            have hdl : N ≤ j ∨ (j < N ∧ L < j ∧ decide (j ≤ L) = false) := hend.imp id (fun h => ⟨h.1, h.2, decide_eq_false (by omega)⟩)
            clear hend
            rcases hdl with hend | ⟨hend, hend2, hdl⟩
            all_goals
              go_wp2
              go_loopw [12, 13] (fun p q ws => ∃ (k g : Nat), k ≤ L + 1 ∧ g + k ≤ L + 1 ∧ p = .int .i64 g ∧ q = .int .i64 ((k : Int) - 1) ∧ RefDo w0 w ws b tb sb ov eEnd (coefDeeds cs cat (nzDown cs k) g ++ [])) (fun _ q _ => (intOf q + 1).toNat)
              case atStart => exact ⟨L + 1, 0, Nat.le_refl _, by omega, rfl, by go_num, Hcd.out⟩
              case round =>
                obtain ⟨k, g, hk, hgk, rfl, rfl, k2⟩ := hrel
                have K2 := Lib.hid k2
                clear k2
                cases k with
                | zero =>
                  rw [show ((0 : Nat) : Int) - 1 = -1 from rfl]
                  go_wp2
                  go_ret
                  obtain ⟨ov', e', q1, q2, -, -, -, -, q7⟩ := K2.out
                  rw [show e' = eEnd from q7] at q1
                  exact ⟨rfl, ov', q1, q2⟩
                | succ p =>
                  rw [show ((p + 1 : Nat) : Int) - 1 = (p : Int) by omega]
                  have c1 := K2.out.on.cell (Hv.out p (by omega)) (by simp)
                  have hxr := Hr.out p
                  obtain ⟨x, hx⟩ : ∃ x, x = cs.getD p 0 := ⟨_, rfl⟩
                  rw [← hx] at c1 hxr
                  rcases (show x = 0 ∨ 0 < x ∨ x < 0 by omega) with h0 | hpos | hneg
                  · have hcd := K2.out
                    rw [coef_zero cs cat p g (by rw [← hx]; exact h0)] at hcd
                    have Hcd2 := Lib.hid hcd
                    subst h0
                    clear hcd hx
                    go_wp2
                    go_roundw
                    case rel => exact ⟨p, g, by omega, by omega, rfl, rfl, Hcd2.out⟩
                    case measure => simp [intOf] <;> omega
                  · obtain ⟨A, hA⟩ := Int.eq_ofNat_of_zero_le (show 0 ≤ x by omega)
                    have hA1 : 1 ≤ A := by omega
                    have hA2 : A ≤ 32767 := by omega
                    have hcd := K2.out
                    rw [coef_more cs cat p g A (by rw [← hx, hA]; rfl) hA1, List.append_assoc, ← hx, decide_eq_false (by omega)] at hcd
                    have Hcd2 := Lib.hid hcd
                    subst hA
                    have hb0 : ((A : Int) == 0) = false := by simp; omega
                    have hmx : max (A : Int) (-(A : Int)) = A := by omega
                    clear hcd hx
                    go_wp2_with fail
                    refine (ref_rank g cat _ (by omega)).mono ?_
                    rintro r w5 ⟨rfl, rfl⟩
                    go_wp2_with fail
                    refine (ref_el 17 (rankOf cat g) ((A : Int) - 1) (.inr kinds8.2.2.2) Hcd2.out (bits17b _ (by omega) (by omega)) (rankOf_pos cat g) (rankOf_le cat g)).mono ?_
                    rintro r w6 ⟨rfl, g1⟩
                    have G2 := Lib.hid g1
                    clear g1
                    by_cases hgt : 1 < A
                    · have hcd := G2.out
                      rw [if_pos hgt] at hcd
                      have Hcd3 := Lib.hid hcd
                      clear hcd
                      go_wp2_with fail
                      refine (ref_by 0 (.inl rfl) Hcd3.out).mono ?_
                      rintro r w7 ⟨rfl, g1⟩
                      have G3 := Lib.hid g1
                      clear g1
                      go_wp2
                      go_roundw
                      case rel => exact ⟨p, g + 1, by omega, by omega, by go_num, rfl, G3.out⟩
                      case measure => simp [intOf] <;> omega
                    · have hcd := G2.out
                      rw [if_neg hgt] at hcd
                      have Hcd3 := Lib.hid hcd
                      clear hcd
                      go_wp2_with fail
                      refine (ref_by 0 (.inl rfl) Hcd3.out).mono ?_
                      rintro r w7 ⟨rfl, g1⟩
                      have G3 := Lib.hid g1
                      clear g1
                      go_wp2
                      go_roundw
                      case rel => exact ⟨p, g, by omega, by omega, rfl, rfl, G3.out⟩
                      case measure => simp [intOf] <;> omega
                  · obtain ⟨A, hA⟩ := Int.eq_ofNat_of_zero_le (show 0 ≤ -x by omega)
                    have hA1 : 1 ≤ A := by omega
                    have hA2 : A ≤ 32767 := by omega
                    have hxA : x = -(A : Int) := by omega
                    have hcd := K2.out
                    rw [coef_more cs cat p g A (by rw [← hx, hxA]; simp) hA1, List.append_assoc, ← hx, decide_eq_true hneg] at hcd
                    have Hcd2 := Lib.hid hcd
                    subst hxA
                    have hb0 : (-(A : Int) == 0) = false := by simp; omega
                    have hmx : max (-(A : Int)) (A : Int) = A := by omega
                    clear hcd hx hA
                    go_wp2_with fail
                    refine (ref_rank g cat _ (by omega)).mono ?_
                    rintro r w5 ⟨rfl, rfl⟩
                    go_wp2_with fail
                    refine (ref_el 17 (rankOf cat g) ((A : Int) - 1) (.inr kinds8.2.2.2) Hcd2.out (bits17b _ (by omega) (by omega)) (rankOf_pos cat g) (rankOf_le cat g)).mono ?_
                    rintro r w6 ⟨rfl, g1⟩
                    have G2 := Lib.hid g1
                    clear g1
                    by_cases hgt : 1 < A
                    · have hcd := G2.out
                      rw [if_pos hgt] at hcd
                      have Hcd3 := Lib.hid hcd
                      clear hcd
                      go_wp2_with fail
                      refine (ref_by 1 (.inr rfl) Hcd3.out).mono ?_
                      rintro r w7 ⟨rfl, g1⟩
                      have G3 := Lib.hid g1
                      clear g1
                      go_wp2
                      go_roundw
                      case rel => exact ⟨p, g + 1, by omega, by omega, by go_num, rfl, G3.out⟩
                      case measure => simp [intOf] <;> omega
                    · have hcd := G2.out
                      rw [if_neg hgt] at hcd
                      have Hcd3 := Lib.hid hcd
                      clear hcd
                      go_wp2_with fail
                      refine (ref_by 1 (.inr rfl) Hcd3.out).mono ?_
                      rintro r w7 ⟨rfl, g1⟩
                      have G3 := Lib.hid g1
                      clear g1
                      go_wp2
                      go_roundw
                      case rel => exact ⟨p, g, by omega, by omega, rfl, rfl, G3.out⟩
                      case measure => simp [intOf] <;> omega

set_option maxRecDepth 100000 in
set_option maxHeartbeats 1600000 in
theorem refcode_form (b : Nat) (ao : Option Addr) (n cap0 : Nat) (cat inc : Int) (w : World) (hm : mayB n cat inc = false) :
    Calls Tryz.prog 11 #[.pointer (some ⟨b, 0, none⟩), .slice ao n cap0, .int .i64 cat, .int .i64 inc] w fun r w' => r = .returned (.int .i64 800) ∧ w = w' := by
  have hd : sizeB n = false ∨ (sizeB n = true ∧ (cat < 0 ∨ (0 ≤ cat ∧ 3 < cat) ∨ (0 ≤ cat ∧ cat ≤ 3 ∧ inc < 0) ∨ (0 ≤ cat ∧ cat ≤ 3 ∧ 0 ≤ inc ∧ 1 < inc))) := by
    unfold mayB at hm
    cases hs : sizeB n with
    | false => exact .inl rfl
    | true =>
      rw [hs, Bool.true_and, decide_eq_false_iff_not] at hm
      exact .inr ⟨rfl, by omega⟩
  rcases hd with hs | ⟨hs, c1 | ⟨c1, c2⟩ | ⟨c1, c2, c3⟩ | ⟨c1, c2, c3, c4⟩⟩
  all_goals
    have Hs := Lib.hid hs
    clear hm hs
    go_enter Tryz.func11, Tryz.ntmps11
    go_wp2_with fail
    refine (ref_size n w).mono ?_
    rintro r w1 ⟨rfl, rfl⟩
    rw [Hs.out]
    go_wp2
    go_ret
    exact ⟨rfl, rfl⟩

set_option maxRecDepth 100000 in
set_option maxHeartbeats 1600000 in
theorem refcode_range (b : Nat) (v : Value) (cs : List Int) (cat inc : Int) (w : World) (hv : IntSlice w v cs) (hm : mayB cs.length cat inc = true) (hr : rangeB cs = false) :
    Calls Tryz.prog 11 #[.pointer (some ⟨b, 0, none⟩), v, .int .i64 cat, .int .i64 inc] w fun r w' => r = .returned (.int .i64 802) ∧ w = w' := by
  obtain ⟨hsz, m1, m2, m3, m4⟩ := mayB_spec hm
  have Hs := Lib.hid (show sizeB cs.length = true from decide_eq_true hsz)
  have Hwi := Lib.hid (ref_within v cs w hv (by omega))
  rw [hr] at Hwi
  obtain ⟨ao, cap0, rfl, -⟩ := hv
  obtain ⟨n, hn⟩ : ∃ n, n = cs.length := ⟨_, rfl⟩
  rw [← hn] at Hs Hwi ⊢
  clear hm hr hsz hn
  go_enter Tryz.func11, Tryz.ntmps11
  go_wp2_with fail
  refine (ref_size n w).mono ?_
  rintro r w1 ⟨rfl, rfl⟩
  rw [Hs.out]
  go_wp2_with fail
  refine Hwi.out.mono ?_
  rintro r w1 ⟨rfl, rfl⟩
  go_wp2
  go_ret
  exact ⟨rfl, rfl⟩

theorem ref_code {w0 w : World} {b tb sb : Nat} {ov : Value} {e : Enc} (h : RefAt w0 w b tb sb ov e) (hl : e.Live) (hst : e.st.length = 256) (hc : e.cost < 400000000) (v : Value) (cs : List Int) (cat inc : Int) (hv : IntSlice w0 v cs) :
    Calls Tryz.prog 11 #[.pointer (some ⟨b, 0, none⟩), v, .int .i64 cat, .int .i64 inc] w fun r w' => r = .returned (.int .i64 (blkCode cs cat inc)) ∧ ∃ ov', RefAt w0 w' b tb sb ov' (if blkFine cs cat inc then e.run (sigDeeds cs cat inc) else e) ∧ EncGo w w' b sb ov ov' := by
  unfold blkCode blkFine
  cases hm : mayB cs.length cat inc with
  | false =>
    rw [if_neg (by decide), Bool.false_and, if_neg (by decide)]
    obtain ⟨ao, cap0, rfl, -⟩ := hv
    refine (refcode_form b ao cs.length cap0 cat inc w hm).mono ?_
    rintro r w' ⟨rfl, rfl⟩
    exact ⟨rfl, ov, h, EncGo.refl _ _ _ _⟩
  | true =>
    rw [if_pos rfl, Bool.true_and]
    cases hr : rangeB cs with
    | false =>
      rw [if_neg (by decide), if_neg (by decide)]
      refine (refcode_range b v cs cat inc w (hv.only h.on (by simp)) hm hr).mono ?_
      rintro r w' ⟨rfl, rfl⟩
      exact ⟨rfl, ov, h, EncGo.refl _ _ _ _⟩
    | true =>
      rw [if_pos rfl, if_pos rfl]
      exact refcode_good h hl hst v cs cat inc hv hc hm hr
end Go.Proofs.YtgmnkihldlajcaaGreatDoor
