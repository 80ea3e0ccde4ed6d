/-
  The walk over the document's Put: an element by its engine.
-/
import Derived.Test.YtgmnkihldlajcaaGreatDoorPutA
import Derived.Test.YtgmnkihldlajcaaGreatDoorHold2
import Derived.Test.YtgmnkihldlajcaaGreatDoorRefBins
namespace Go.Proofs.YtgmnkihldlajcaaGreatDoor
open Go.RowKit

theorem strOfNums_at (cs : List Int) (k : Nat) (hk : k < (strOfNums cs).size) (h0 : 0 ≤ cs.getD k 0) (h2 : cs.getD k 0 < 256) : (((strOfNums cs)[k]'hk).toNat : Int) = cs.getD k 0 := by
  have hl : k < cs.length := by rwa [strOfNums_size] at hk
  have h := strOfNums_byte cs k hl h0 h2
  rw [← h]
  have hk2 : k < (strOfNums cs).data.toList.length := by rw [Array.length_toList]; exact hk
  simp only [List.getD, List.getElem?_eq_getElem hk2, Option.getD_some]
  rfl

set_option maxRecDepth 100000 in
set_option maxHeartbeats 1600000 in
theorem ref_elem {w0 w : World} {b tb sb : Nat} {ov : Value} {e : Enc} (h : RefAt w0 w b tb sb ov e) (hn : e.cost < 600000000) (el inc v most : Int) :
    Calls Tryz.prog 27 #[.pointer (some ⟨b, 0, none⟩), .int .i64 el, .int .i64 inc, .int .i64 v, .int .i64 most] w fun r w' => r = .returned (.int .i64 (e.elem el inc v most).1) ∧ ∃ ov', RefAt w0 w' b tb sb ov' (e.elem el inc v most).2 ∧ EncGo w w' b sb ov ov' := by
  have H := Lib.hid h
  clear h
  by_cases hc : bitsE el v most = 0 ∧ 0 ≤ inc ∧ inc ≤ 7
  · obtain ⟨hc1, hc2, hc3⟩ := hc
    obtain ⟨el0, el1, -⟩ := bitsE_el el v most hc1
    have hel : e.elem el inc v most = (putCode (Enc.letters el inc e 0 (bitsL el v most)).1, (Enc.letters el inc e 0 (bitsL el v most)).2) := by unfold Enc.elem; rw [if_pos ⟨hc1, hc2, hc3⟩]
    rw [hel]
    have hlet := bitsL_letter el v most
    have hlen := bitsL_length el v most
    have Hb := Lib.hid (refbits_any el v most w)
    rw [hc1] at Hb
    obtain ⟨cs, hcs⟩ : ∃ cs, cs = bitsL el v most := ⟨_, rfl⟩
    rw [← hcs] at hlet hlen Hb ⊢
    have Hlet := Lib.hid hlet
    have hat0 : ∀ k (hk : k < (strOfNums cs).size), (((strOfNums cs)[k]'hk).toNat : Int) = cs.getD k 0 := by
      intro k hk
      have hk2 : k < cs.length := by rwa [strOfNums_size] at hk
      have hlk : isLetter (cs.getD k 0) := by
        simp only [List.getD, List.getElem?_eq_getElem hk2, Option.getD_some]
        exact hlet _ (List.getElem_mem hk2)
      unfold isLetter at hlk
      exact strOfNums_at cs k hk (by omega) (by omega)
    have hsz : (strOfNums cs).size = cs.length := strOfNums_size cs
    obtain ⟨s, hs⟩ : ∃ s, s = strOfNums cs := ⟨_, rfl⟩
    rw [← hs] at Hb hsz
    have Hat0 : Hid (∀ k (hk : k < s.size), ((s[k]'hk).toNat : Int) = cs.getD k 0) := Lib.hid (by subst hs; exact hat0)
    have Hsz := Lib.hid hsz
    have hss : s.size ≤ 100 := by omega
    clear hlet hel hc1 hcs hs hsz hlen hat0
    go_enter Tryz.func27, Tryz.ntmps27
    go_wp2_with fail
    refine (Hb.out).mono ?_
    rintro r w2 ⟨rfl, h1⟩
    have h1 : Only [] w w2 := Only.of_below h1
    have Ho2 := Lib.hid h1
    have H2 := Lib.hid (H.out.only h1 (by simp) (by simp) (by simp) (by simp) (by simp))
    clear h1 Hb
    go_wp2
    go_loopw [13, 14] (fun n i wr => ∃ (k m : Nat) (ov' : Value) (e' : Enc), k ≤ s.size ∧ i = .int .i64 k ∧ n = .int .i64 m ∧ RefAt w0 wr b tb sb ov' e' ∧ EncGo w2 wr b sb ov ov' ∧ Hid (AtLetter el inc cs e e' k m)) (fun _ i _ => s.size - (intOf i).toNat)
    case atStart => exact ⟨0, 0, ov, e, Nat.zero_le _, rfl, rfl, H2.out, EncGo.refl _ _ _ _, Lib.hid (AtLetter.start _ _ _ _)⟩
    case round =>
      obtain ⟨k, m, ov2, e2, hk, rfl, rfl, h3, h4, hat⟩ := hrel
      have H3 := Lib.hid h3
      have H4 := Lib.hid h4
      clear h3 h4
      have hmk : m ≤ 100 := by have := hat.out.2.2; omega
      have hcost : Hid (e2.cost < 700000000) := Lib.hid (by have := hat.out.2.1; omega)
      by_cases hlt : k < s.size
      · have hkl : Hid (k < cs.length) := Lib.hid (by have := Hsz.out; omega)
        have c1 := Hat0.out k hlt
        have hlk : isLetter (cs.getD k 0) := by
          simp only [List.getD, List.getElem?_eq_getElem hkl.out, Option.getD_some]
          exact Hlet.out _ (List.getElem_mem hkl.out)
        obtain ⟨c, hcd⟩ : ∃ c, c = cs.getD k 0 := ⟨_, rfl⟩
        rw [← hcd] at c1 hlk
        have Hcd := Lib.hid hcd
        clear hcd
        have hx : ctxAt el inc m = 8 * el + min (inc + m) 7 := rfl
        have Hx := Lib.hid hx
        clear hx
        rcases hlk with rfl | rfl | rfl | rfl
        · skip
          go_wp2_with fail
          refine (H3.out.bin (ctxAt el inc m) 0 hcost.out).mono ?_
          rintro r w4 ⟨rfl, ov3, g1, g2⟩
          have G1 := Lib.hid g1
          have G2 := Lib.hid (H4.out.trans g2)
          clear g1 g2
          cases hm : e2.canBin (ctxAt el inc m) 0 with
          | true =>
            have hy : AtLetter el inc cs e (e2.bin (ctxAt el inc m) 0) (k + 1) (m + 1) := by
              have := AtLetter.bin_yes hat.out H3.out.good hkl.out (by rw [← Hcd.out]; omega) (by rw [← Hcd.out]; exact hm)
              rw [← Hcd.out] at this
              exact this
            have Hy := Lib.hid hy
            clear hm hy
            rw [show codeOf true = 0 from rfl]
            go_wp2
            go_roundw
            case rel => exact ⟨k + 1, (m + 1), ov3, _, by omega, by go_num, by go_num, G1.out, G2.out, Hy⟩
            case measure => simp [intOf] <;> omega
          | false =>
            have hy : Enc.letters el inc e 0 cs = (false, e2.bin (ctxAt el inc m) 0) := by
              have := AtLetter.bin_no hat.out hkl.out (by rw [← Hcd.out]; omega) (by rw [← Hcd.out]; exact hm)
              rw [← Hcd.out] at this
              exact this
            have Hy := Lib.hid hy
            clear hm hy
            rw [show codeOf false = 501 from rfl]
            go_wp2
            go_ret
            refine ⟨ret_int (by rw [Hy.out]; rfl), ov3, by rw [Hy.out]; exact G1.out, (EncGo.of_only Ho2.out).trans G2.out⟩
        · skip
          go_wp2_with fail
          refine (H3.out.bin (ctxAt el inc m) 1 hcost.out).mono ?_
          rintro r w4 ⟨rfl, ov3, g1, g2⟩
          have G1 := Lib.hid g1
          have G2 := Lib.hid (H4.out.trans g2)
          clear g1 g2
          cases hm : e2.canBin (ctxAt el inc m) 1 with
          | true =>
            have hy : AtLetter el inc cs e (e2.bin (ctxAt el inc m) 1) (k + 1) (m + 1) := by
              have := AtLetter.bin_yes hat.out H3.out.good hkl.out (by rw [← Hcd.out]; omega) (by rw [← Hcd.out]; exact hm)
              rw [← Hcd.out] at this
              exact this
            have Hy := Lib.hid hy
            clear hm hy
            rw [show codeOf true = 0 from rfl]
            go_wp2
            go_roundw
            case rel => exact ⟨k + 1, (m + 1), ov3, _, by omega, by go_num, by go_num, G1.out, G2.out, Hy⟩
            case measure => simp [intOf] <;> omega
          | false =>
            have hy : Enc.letters el inc e 0 cs = (false, e2.bin (ctxAt el inc m) 1) := by
              have := AtLetter.bin_no hat.out hkl.out (by rw [← Hcd.out]; omega) (by rw [← Hcd.out]; exact hm)
              rw [← Hcd.out] at this
              exact this
            have Hy := Lib.hid hy
            clear hm hy
            rw [show codeOf false = 501 from rfl]
            go_wp2
            go_ret
            refine ⟨ret_int (by rw [Hy.out]; rfl), ov3, by rw [Hy.out]; exact G1.out, (EncGo.of_only Ho2.out).trans G2.out⟩
        · skip
          go_wp2_with fail
          refine (H3.out.bypass 0 hcost.out).mono ?_
          rintro r w4 ⟨rfl, ov3, g1, g2⟩
          have G1 := Lib.hid g1
          have G2 := Lib.hid (H4.out.trans g2)
          clear g1 g2
          cases hm : e2.may 0 with
          | true =>
            have hy : AtLetter el inc cs e (e2.bypass 0) (k + 1) m := by
              have := AtLetter.by_yes hat.out H3.out.good hkl.out (by rw [← Hcd.out]; omega) (by rw [← Hcd.out]; exact hm)
              rw [← Hcd.out] at this
              exact this
            have Hy := Lib.hid hy
            clear hm hy
            rw [show codeOf true = 0 from rfl]
            go_wp2
            go_roundw
            case rel => exact ⟨k + 1, m, ov3, _, by omega, by go_num, rfl, G1.out, G2.out, Hy⟩
            case measure => simp [intOf] <;> omega
          | false =>
            have hy : Enc.letters el inc e 0 cs = (false, e2.bypass 0) := by
              have := AtLetter.by_no hat.out hkl.out (by rw [← Hcd.out]; omega) (by rw [← Hcd.out]; exact hm)
              rw [← Hcd.out] at this
              exact this
            have Hy := Lib.hid hy
            clear hm hy
            rw [show codeOf false = 501 from rfl]
            go_wp2
            go_ret
            refine ⟨ret_int (by rw [Hy.out]; rfl), ov3, by rw [Hy.out]; exact G1.out, (EncGo.of_only Ho2.out).trans G2.out⟩
        · skip
          go_wp2_with fail
          refine (H3.out.bypass 1 hcost.out).mono ?_
          rintro r w4 ⟨rfl, ov3, g1, g2⟩
          have G1 := Lib.hid g1
          have G2 := Lib.hid (H4.out.trans g2)
          clear g1 g2
          cases hm : e2.may 1 with
          | true =>
            have hy : AtLetter el inc cs e (e2.bypass 1) (k + 1) m := by
              have := AtLetter.by_yes hat.out H3.out.good hkl.out (by rw [← Hcd.out]; omega) (by rw [← Hcd.out]; exact hm)
              rw [← Hcd.out] at this
              exact this
            have Hy := Lib.hid hy
            clear hm hy
            rw [show codeOf true = 0 from rfl]
            go_wp2
            go_roundw
            case rel => exact ⟨k + 1, m, ov3, _, by omega, by go_num, rfl, G1.out, G2.out, Hy⟩
            case measure => simp [intOf] <;> omega
          | false =>
            have hy : Enc.letters el inc e 0 cs = (false, e2.bypass 1) := by
              have := AtLetter.by_no hat.out hkl.out (by rw [← Hcd.out]; omega) (by rw [← Hcd.out]; exact hm)
              rw [← Hcd.out] at this
              exact this
            have Hy := Lib.hid hy
            clear hm hy
            rw [show codeOf false = 501 from rfl]
            go_wp2
            go_ret
            refine ⟨ret_int (by rw [Hy.out]; rfl), ov3, by rw [Hy.out]; exact G1.out, (EncGo.of_only Ho2.out).trans G2.out⟩
      · obtain rfl : k = s.size := by omega
        have hy := hat.out.ends (by have := Hsz.out; omega)
        have Hy := Lib.hid hy
        clear hy
        go_wp2
        go_ret
        refine ⟨ret_int (by rw [Hy.out]; rfl), ov2, by rw [Hy.out]; exact H3.out, (EncGo.of_only Ho2.out).trans H4.out⟩
  · have hel : e.elem el inc v most = (600, e) := by unfold Enc.elem; rw [if_neg hc]
    rw [hel]
    have Hb := Lib.hid (refbits_any el v most w)
    have hb2 : bitsE el v most = 0 ∨ bitsE el v most = 600 := by unfold bitsE; split <;> simp
    have hcc : bitsE el v most = 600 ∨ (bitsE el v most = 0 ∧ inc < 0) ∨ (bitsE el v most = 0 ∧ 0 ≤ inc ∧ 7 < inc) := by omega
    clear hc hb2 hel
    rcases hcc with h6 | ⟨h6, hi⟩ | ⟨h6, hi, hi2⟩
    all_goals
      rw [h6] at Hb
      clear h6
      go_enter Tryz.func27, Tryz.ntmps27
      go_wp2_with fail
      refine (Hb.out).mono ?_
      rintro r w1 ⟨rfl, h1⟩
      have H1 : Hid (Only [] w w1) := Lib.hid (Only.of_below h1)
      clear h1
      go_wp2
      go_ret
      exact ⟨rfl, ov, H.out.only H1.out (by simp) (by simp) (by simp) (by simp) (by simp), H1.out.mono (by simp), fun q hq => .inl hq⟩
end Go.Proofs.YtgmnkihldlajcaaGreatDoor
