/-
  The walks over package engine's decoder: Bin.
-/
import Derived.Test.YtgmnkihldlajcaaGreatDoorEngH
namespace Go.Proofs.YtgmnkihldlajcaaGreatDoor
open Go.RowKit

theorem Dec.split_yes (d : Dec) (c : Nat) (s l : Int) (hs : d.st.getD c 0 = s) (hl : d.lessOf c = l) (h : d.wid - l ≤ d.off) : d.split c = (1 - s % 2, l, d.off - (d.wid - l)) := by
  unfold Dec.split; dsimp only; rw [hl, if_pos h, hs]
theorem Dec.split_no (d : Dec) (c : Nat) (s l : Int) (hs : d.st.getD c 0 = s) (hl : d.lessOf c = l) (h : ¬ d.wid - l ≤ d.off) : d.split c = (s % 2, d.wid - l, d.off) := by
  unfold Dec.split; dsimp only; rw [hl, if_neg h, hs]
theorem Dec.bin_yes (d : Dec) (c : Int) (p : Int × Int × Int) (hc : d.can c = true) (hp : d.split c.toNat = p) (hh : d.has (need 8 p.2.1) = true) :
    d.bin c = (p.1, 0, { d.normal p.2.1 p.2.2 with st := d.st.set c.toNat (nextOf (d.st.getD c.toNat 0) (p.1 == d.st.getD c.toNat 0 % 2)) }) := by
  unfold Dec.bin; rw [if_pos hc]; dsimp only; rw [hp, if_pos hh]
theorem Dec.bin_end (d : Dec) (c : Int) (p : Int × Int × Int) (hc : d.can c = true) (hp : d.split c.toNat = p) (hh : d.has (need 8 p.2.1) = false) : d.bin c = (0, 500, d) := by
  unfold Dec.bin; rw [if_pos hc]; dsimp only; rw [hp, if_neg (by rw [hh]; decide)]
theorem Dec.bin_no (d : Dec) (c : Int) (hc : d.can c = false) : d.bin c = (0, 501, d) := by
  unfold Dec.bin; rw [if_neg (by rw [hc]; decide)]

set_option maxRecDepth 100000 in
set_option maxHeartbeats 1600000 in
theorem eng_dbin (b tb sb : Nat) (d : Dec) (c : Int) (w : World) (hd : DecIs w b tb sb d) (hok : d.Ok) (hs : d.s.size ≤ 140737488355328) :
    Calls Tryz.prog 111 #[.pointer (some ⟨b, 0, none⟩), .int .i64 c] w fun r w' => r = .returned (.tuple #[.int .i64 (d.bin c).1, .int .i64 (d.bin c).2.1]) ∧ DecIs w' b tb sb (d.bin c).2.2 ∧ Only [b, sb] w w' := by
  have hmay := eng_dmay b tb sb d w hd
  have hpos := hok.pos
  have Hd := Lib.hid hd
  by_cases hcan : d.can c = true
  · have hov : d.over = false := by unfold Dec.can at hcan; rw [Bool.and_eq_true] at hcan; simpa using hcan.1
    have hc : 0 ≤ c ∧ c < d.st.length := by unfold Dec.can at hcan; rw [Bool.and_eq_true] at hcan; simpa using hcan.2
    obtain ⟨hc0, hc1⟩ := hc
    obtain ⟨i, rfl⟩ := Int.eq_ofNat_of_zero_le hc0
    have hst := hok.st i
    obtain ⟨k, r, hkr, hk, hr⟩ := state_parts (d.st.getD i 0) hst.1 hst.2
    have hw0 := hok.wid2 hov
    have hw1 := hok.wid1
    have ho0 := hok.off0
    have ho1 := hok.off1 hov
    obtain ⟨q, hq, hq4⟩ : ∃ q : Nat, d.wid / 64 % 4 = q ∧ q < 4 := ⟨(d.wid / 64 % 4).toNat, by omega, by omega⟩
    obtain ⟨less, hless⟩ : ∃ l, l = widthL.getD (k * 4 + q) 0 := ⟨_, rfl⟩
    have hlo : d.lessOf i = less := by unfold Dec.lessOf; rw [hless, hq, hkr]; unfold widthOf; congr 1; omega
    have hlr := widthL_range (k * 4 + q) (by omega)
    rw [← hless] at hlr
    obtain ⟨hlr0, hlr1⟩ := hlr
    have hcl : i < d.st.length := by omega
    have c9 := hd.state i hcl
    have ct := tab_w hd.tab (k * 4 + q) (by omega)
    rw [← hless, ← Nat.add_assoc] at ct
    obtain ⟨c0, c1, -, -, c4, c5, -⟩ := hd.cellsAt
    rw [hkr] at c9
    rw [hov] at hmay
    obtain ⟨L, hL⟩ : ∃ L, L = d.st.length := ⟨_, rfl⟩
    obtain ⟨wi, hwi⟩ : ∃ l, l = d.wid := ⟨_, rfl⟩
    obtain ⟨o, ho⟩ : ∃ l, l = d.off := ⟨_, rfl⟩
    rw [← hL] at c1 hcl hc1
    rw [← hwi] at c4 hw0 hw1 ho1 hq
    rw [← ho] at c5 ho0 ho1
    have hd1 : Int.tdiv (2 * (k : Int) + r) 2 = k := by rw [Int.tdiv_eq_ediv_of_nonneg (by omega)]; omega
    have hd2 : Int.tmod (2 * (k : Int) + r) 2 = r := by rw [Int.tmod_eq_emod_of_nonneg (by omega)]; omega
    have hd3 : Int.tmod (Int.tdiv wi 64) 4 = q := by rw [Int.tdiv_eq_ediv_of_nonneg (by omega), Int.tmod_eq_emod_of_nonneg (by omega)]; exact hq
    have hsb : sb ≠ b := block_type hd.sts hd.cells (by decide)
    have htb : tb ≠ b := block_type hd.tab hd.cells (by decide)
    have hts : tb ≠ sb := block_type hd.tab hd.sts (by decide)
    have Hmay := Lib.hid hmay
    have HL := Lib.hid hL
    have Hwi := Lib.hid hwi
    have Ho := Lib.hid ho
    have Hkr := Lib.hid hkr
    have Hlo := Lib.hid hlo
    have Hcan := Lib.hid hcan
    clear hd hmay hL hwi ho hkr hlo hless hcan hst hok hov
    go_enter Tryz.func111, Tryz.ntmps111
    go_wp2_with fail
    refine Hmay.out.mono ?_
    rintro r0 w0 ⟨rfl, rfl⟩
    rw [show codeOf (!false) = 0 from rfl]
    by_cases hge : wi - less ≤ o
    · obtain ⟨n1, hn1⟩ : ∃ n, n = less := ⟨_, rfl⟩
      obtain ⟨n2, hn2⟩ : ∃ n, n = o - (wi - less) := ⟨_, rfl⟩
      have hsp : d.split ((i : Int)).toNat = (1 - (r : Int), n1, n2) := by
        rw [Int.toNat_natCast, d.split_yes i (2 * (k : Int) + r) less Hkr.out Hlo.out (by rw [← Hwi.out, ← Ho.out]; exact hge), hn1, hn2, ← Hwi.out, ← Ho.out]
        try rw [show (2 * (k : Int) + r) % 2 = r by omega]
      have Hsp := Lib.hid hsp
      have hb1 : (1 - (r : Int) == (r : Int)) = false := by simp <;> omega
      have hb2 : (1 - (r : Int) == (2 * (k : Int) + r) % 2) = false := by rw [show (2 * (k : Int) + r) % 2 = r by omega]; exact hb1
      have Hb2 := Lib.hid hb2
      have hwr : IntKind.i64.wrap (1 - (r : Int)) = 1 - r := by rw [IntKind.wrap_i64]; omega
      clear hsp hb2
      go_wp2
      go_quiet (fail)
      go_wp2
      go_quiet (fail)
      go_wp2_with fail
      generalize hww : World.drewN w _ = wa
      have ha : DecIs wa b tb sb d := by rw [← hww]; exact Hd.out.drewN _
      have hb : Only [b, sb] w wa := by rw [← hww]; exact (Only.refl _ _).drewN _
      rw [← hn2, ← hn1]
      refine (eng_dnorm b tb sb d n1 n2 wa ha (by omega) (by omega) (by omega) (by omega) hs hpos).mono ?_
      rintro r1 w1 ⟨rfl, g1, g2⟩
      have Hon := Lib.hid (hb.trans (g2.mono (by simp)))
      clear g2 ha hb hww c0 c1 c4 c5 c9 ct
      by_cases hh : d.has (need 8 n1) = true
      · rw [hh] at g1 ⊢
        rw [show endOf true = 0 from rfl]
        have hbin := d.bin_yes i _ Hcan.out Hsp.out hh
        rw [Int.toNat_natCast, Hkr.out, Hb2.out] at hbin
        have Hbin := Lib.hid hbin
        have hnn : d.normalIf true n1 n2 = d.normal n1 n2 := rfl
        rw [hnn] at g1
        have htq := g1.tab
        obtain ⟨e0, e1, -, -, -, -, -⟩ := g1.cellsAt
        have e9 : w1.cell? ⟨sb, i, none⟩ = some (.int .i64 (d.st.getD i 0)) := g1.state i (by show i < d.st.length; rw [← HL.out]; exact hcl)
        have ez := free_of g1.sts i
        have e1' : w1.cell? ⟨b, 1, none⟩ = some (.slice (some ⟨sb, 0, none⟩) L L) := by rw [e1, HL.out]; rfl
        have G1 := Lib.hid g1
        clear g1 e1 hbin hnn
        go_wp2
        go_region_held3 (fun w' => w'.cell? ⟨b, 0, none⟩ = some (.pointer (some ⟨tb, 0, none⟩)) ∧ w'.cell? ⟨b, 1, none⟩ = some (.slice (some ⟨sb, 0, none⟩) L L)) (first | exact ⟨e0, e1'⟩ | go_keep | assumption)
          (first | (go_at_call 108; refine (eng_next tb (2 * (k : Int) + r) false w1.drew htq (by omega) (by omega)).mono ?_; rintro r2 w2 ⟨rfl, rfl⟩))
        have h3 : DecIs (w1.setCell ⟨sb, i, none⟩ (.int .i64 (nextOf (2 * (k : Int) + r) false))).drew b tb sb { d.normal n1 n2 with st := d.st.set i (nextOf (2 * (k : Int) + r) false) } := (G1.out.setState i _).drew
        have h4 : Only [b, sb] w (w1.setCell ⟨sb, i, none⟩ (.int .i64 (nextOf (2 * (k : Int) + r) false))).drew := (Hon.out.setCell (.inl (by simp)) _).drew
        have H3 := Lib.hid h3
        have H4 := Lib.hid h4
        clear h3 h4
        go_wp2
        go_ret2
        rw [Hbin.out]
        exact ⟨rfl, H3.out, H4.out⟩
      · have hh2 : d.has (need 8 n1) = false := by simpa using hh
        rw [hh2] at g1 ⊢
        rw [show endOf false = 500 from rfl]
        have Hbin := Lib.hid (d.bin_end i _ Hcan.out Hsp.out hh2)
        have G1 := Lib.hid g1
        clear g1
        go_wp2
        go_ret2
        rw [Hbin.out]
        exact ⟨rfl, G1.out, Hon.out⟩
    · obtain ⟨n1, hn1⟩ : ∃ n, n = wi - less := ⟨_, rfl⟩
      obtain ⟨n2, hn2⟩ : ∃ n, n = o := ⟨_, rfl⟩
      have hsp : d.split ((i : Int)).toNat = ((r : Int), n1, n2) := by
        rw [Int.toNat_natCast, d.split_no i (2 * (k : Int) + r) less Hkr.out Hlo.out (by rw [← Hwi.out, ← Ho.out]; exact hge), hn1, hn2, ← Hwi.out, ← Ho.out]
        try rw [show (2 * (k : Int) + r) % 2 = r by omega]
      have Hsp := Lib.hid hsp
      have hb1 : ((r : Int) == (r : Int)) = true := by simp <;> omega
      have hb2 : ((r : Int) == (2 * (k : Int) + r) % 2) = true := by rw [show (2 * (k : Int) + r) % 2 = r by omega]; exact hb1
      have Hb2 := Lib.hid hb2
      have hwr : IntKind.i64.wrap (1 - (r : Int)) = 1 - r := by rw [IntKind.wrap_i64]; omega
      clear hsp hb2
      go_wp2
      go_quiet (fail)
      go_wp2
      go_quiet (fail)
      go_wp2_with fail
      generalize hww : World.drewN w _ = wa
      have ha : DecIs wa b tb sb d := by rw [← hww]; exact Hd.out.drewN _
      have hb : Only [b, sb] w wa := by rw [← hww]; exact (Only.refl _ _).drewN _
      rw [← hn2, ← hn1]
      refine (eng_dnorm b tb sb d n1 n2 wa ha (by omega) (by omega) (by omega) (by omega) hs hpos).mono ?_
      rintro r1 w1 ⟨rfl, g1, g2⟩
      have Hon := Lib.hid (hb.trans (g2.mono (by simp)))
      clear g2 ha hb hww c0 c1 c4 c5 c9 ct
      by_cases hh : d.has (need 8 n1) = true
      · rw [hh] at g1 ⊢
        rw [show endOf true = 0 from rfl]
        have hbin := d.bin_yes i _ Hcan.out Hsp.out hh
        rw [Int.toNat_natCast, Hkr.out, Hb2.out] at hbin
        have Hbin := Lib.hid hbin
        have hnn : d.normalIf true n1 n2 = d.normal n1 n2 := rfl
        rw [hnn] at g1
        have htq := g1.tab
        obtain ⟨e0, e1, -, -, -, -, -⟩ := g1.cellsAt
        have e9 : w1.cell? ⟨sb, i, none⟩ = some (.int .i64 (d.st.getD i 0)) := g1.state i (by show i < d.st.length; rw [← HL.out]; exact hcl)
        have ez := free_of g1.sts i
        have e1' : w1.cell? ⟨b, 1, none⟩ = some (.slice (some ⟨sb, 0, none⟩) L L) := by rw [e1, HL.out]; rfl
        have G1 := Lib.hid g1
        clear g1 e1 hbin hnn
        go_wp2
        go_region_held3 (fun w' => w'.cell? ⟨b, 0, none⟩ = some (.pointer (some ⟨tb, 0, none⟩)) ∧ w'.cell? ⟨b, 1, none⟩ = some (.slice (some ⟨sb, 0, none⟩) L L)) (first | exact ⟨e0, e1'⟩ | go_keep | assumption)
          (first | (go_at_call 108; refine (eng_next tb (2 * (k : Int) + r) true w1.drew htq (by omega) (by omega)).mono ?_; rintro r2 w2 ⟨rfl, rfl⟩))
        have h3 : DecIs (w1.setCell ⟨sb, i, none⟩ (.int .i64 (nextOf (2 * (k : Int) + r) true))).drew b tb sb { d.normal n1 n2 with st := d.st.set i (nextOf (2 * (k : Int) + r) true) } := (G1.out.setState i _).drew
        have h4 : Only [b, sb] w (w1.setCell ⟨sb, i, none⟩ (.int .i64 (nextOf (2 * (k : Int) + r) true))).drew := (Hon.out.setCell (.inl (by simp)) _).drew
        have H3 := Lib.hid h3
        have H4 := Lib.hid h4
        clear h3 h4
        go_wp2
        go_ret2
        rw [Hbin.out]
        exact ⟨rfl, H3.out, H4.out⟩
      · have hh2 : d.has (need 8 n1) = false := by simpa using hh
        rw [hh2] at g1 ⊢
        rw [show endOf false = 500 from rfl]
        have Hbin := Lib.hid (d.bin_end i _ Hcan.out Hsp.out hh2)
        have G1 := Lib.hid g1
        clear g1
        go_wp2
        go_ret2
        rw [Hbin.out]
        exact ⟨rfl, G1.out, Hon.out⟩
  · have hcf : d.can c = false := by simpa using hcan
    rw [d.bin_no c hcf]
    cases hov : d.over
    · rw [hov] at hmay
      obtain ⟨-, c1, -, -, -, -, -⟩ := hd.cellsAt
      have hc : ¬ (0 ≤ c ∧ c < d.st.length) := by
        unfold Dec.can at hcf
        rw [hov] at hcf
        simpa using hcf
      obtain ⟨L, hL⟩ : ∃ L, L = d.st.length := ⟨_, rfl⟩
      rw [← hL] at c1 hc
      have Hmay := Lib.hid hmay
      clear hd hmay hL hcan hcf hok
      go_enter Tryz.func111, Tryz.ntmps111
      go_wp2_with fail
      refine Hmay.out.mono ?_
      rintro r0 w0 ⟨rfl, rfl⟩
      rw [show codeOf (!false) = 0 from rfl]
      by_cases h0 : c < 0
      · go_wp2 <;> go_ret2 <;> exact ⟨rfl, Hd.out, Only.refl _ _⟩
      · have h1 : (L : Int) ≤ c := by omega
        go_wp2 <;> go_ret2 <;> exact ⟨rfl, Hd.out, Only.refl _ _⟩
    · rw [hov] at hmay
      have Hmay := Lib.hid hmay
      clear hd hmay hcan hcf hok
      go_enter Tryz.func111, Tryz.ntmps111
      go_wp2_with fail
      refine Hmay.out.mono ?_
      rintro r0 w0 ⟨rfl, rfl⟩
      rw [show codeOf (!true) = 501 from rfl]
      go_wp2
      go_ret2
      exact ⟨rfl, Hd.out, Only.refl _ _⟩
end Go.Proofs.YtgmnkihldlajcaaGreatDoor
