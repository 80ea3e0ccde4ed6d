/-
  The walks over the document's own encoder: Bypass, Terminate; bits packed.
-/
import Derived.Test.YtibojidpifgblaaDoorRefC
import Derived.Test.YtibojidpifgblaaDoorEngG
namespace Go.Proofs.YtibojidpifgblaaDoor
open Go.RowKit

theorem ref_guard (e : Enc) (x : Int) (h : e.may x = false) : x < 0 ∨ 1 < x ∨ e.over = true := by
  unfold Enc.may at h
  cases ho : e.over
  · rw [ho] at h
    simp only [Bool.not_false, Bool.and_true, Bool.or_eq_false_iff, beq_eq_false_iff_ne] at h
    omega
  · simp

set_option maxRecDepth 100000 in
set_option maxHeartbeats 1600000 in
theorem ref_bypass (b tb sb : Nat) (ov : Value) (e : Enc) (x : Int) (w : World) (he : RefIs w b tb sb ov e) (hg : e.Good) (hn : e.cost < 700000000) :
    Calls Tryd.prog 26 #[.pointer (some ⟨b, 0, none⟩), .int .i64 x] w fun r w' => r = .returned (.int .i64 (codeOf (e.may x))) ∧ ∃ ov', RefIs w' b tb sb ov' (e.bypass x) ∧ EncGo w w' b sb ov ov' := by
  by_cases hm : e.may x = true
  · have hby : e.bypass x = e.half x := by unfold Enc.bypass; rw [if_pos hm]
    obtain ⟨hx, hov⟩ := e.may_bit x hm
    obtain ⟨-, -, c2, c3, c4, -, c6, -⟩ := he.cellsAt
    rw [hov] at c6
    have z2 := free_of he.cells 2
    have z4 := free_of he.cells 4
    obtain ⟨m, hm1, hm2⟩ : ∃ m, x * e.wid = m ∧ (m = 0 ∨ m = e.wid) := by rcases hx with rfl | rfl <;> simp
    have hw0 := hg.wide
    have hw1 := hg.ok.wid1
    have hlo0 := hg.ok.low
    have hlo1 := hg.ok.top
    have hou : (e.outs : Int) ≤ 900000000 := by unfold Enc.cost at hn; omega
    have hh : e.half x = (if 1024 ≤ 2 * e.low + m then { Enc.put { e with low := 2 * e.low + m } 1 with low := 2 * e.low + m - 1024 } else if 2 * e.low + m < 512 then Enc.put { e with low := 2 * e.low + m } 0 else { e with low := 2 * e.low + m - 512, outs := e.outs + 1 }) := by
      unfold Enc.half
      dsimp only
      rw [hm1]
      rfl
    obtain ⟨lo, hlo⟩ : ∃ l, l = e.low := ⟨_, rfl⟩
    obtain ⟨wi, hwi⟩ : ∃ l, l = e.wid := ⟨_, rfl⟩
    rw [← hlo] at c2 hlo0 hlo1 hh
    rw [← hwi] at c3 hw0 hw1 hlo1 hm1 hm2
    have He := Lib.hid he
    have Hn := Lib.hid hn
    have Hg := Lib.hid hg
    have Hm := Lib.hid hm
    have Hby := Lib.hid hby
    have Hm1 := Lib.hid hm1
    have Hh := Lib.hid hh
    have Hcost : Hid (∀ (l : Int), Enc.cost { e with low := l } < 900000000) := Lib.hid (fun l => by unfold Enc.cost at *; dsimp only; omega)
    obtain ⟨l, hl⟩ : ∃ l : Int, l = 2 * lo + m := ⟨_, rfl⟩
    rw [← hl] at hh
    have hl0 : 0 ≤ l := by omega
    have hl1 : l ≤ 2048 := by omega
    have Hl := Lib.hid hl
    have Hh := Lib.hid hh
    clear he hn hg hm hby hh hm1 hov hlo hwi hl
    go_enter Tryd.func26, Tryd.ntmps26
    rcases hx with rfl | rfl
    · have hm0 : m = 0 := by have := Hm1.out; omega
      have hll : l = 2 * lo := by have := Hl.out; omega
      clear Hl
      subst hll hm0
      have hh := Hh.out
      try rw [Int.add_zero] at hh
      have h1 : RefIs (w.setCell ⟨b, 2, none⟩ (.int .i64 (2 * lo))) b tb sb ov { e with low := 2 * lo } := He.out.put 2 _ _ rfl rfl rfl
      have h2 : EncTo w (w.setCell ⟨b, 2, none⟩ (.int .i64 (2 * lo))) b ov ov := (EncTo.refl _ _ _).set _ _
      have H1 := Lib.hid h1
      have H2 := Lib.hid h2
      clear h1 h2
      by_cases k1 : 1024 ≤ 2 * lo
      · rw [if_pos k1] at hh
        have Hh2 := Lib.hid hh
        clear hh
        go_wp2_with fail
        refine (ref_put b tb sb ov { e with low := 2 * lo } 1 _ H1.out (.inr rfl) (Hcost.out (2 * lo))).mono ?_
        rintro r w1 ⟨rfl, ov3, g1, g2⟩
        obtain ⟨-, -, q2, -, -, -, -, -⟩ := g1.cellsAt
        have q2' : w1.cell? ⟨b, 2, none⟩ = some (.int .i64 (2 * lo)) := q2
        have x2 := free_of g1.cells 2
        have h5 : RefIs (w1.setCell ⟨b, 2, none⟩ (.int .i64 (2 * lo - 1024))) b tb sb ov3 { Enc.put { e with low := 2 * lo } 1 with low := 2 * lo - 1024 } := g1.put 2 (.int .i64 (2 * lo - 1024)) { Enc.put { e with low := 2 * lo } 1 with low := 2 * lo - 1024 } rfl rfl rfl
        rw [← Hh2.out] at h5
        have H5 := Lib.hid h5
        have H6 := Lib.hid (((H2.out.trans g2).set 2 (.int .i64 (2 * lo - 1024))).go sb)
        clear g1 g2 q2 h5
        go_wp2
        go_ret
        rw [Hby.out, Hm.out]
        exact ⟨rfl, ov3, H5.out, H6.out⟩
      · rw [if_neg k1] at hh
        by_cases k2 : 2 * lo < 512
        · rw [if_pos k2] at hh
          have Hh2 := Lib.hid hh
          clear hh
          go_wp2_with fail
          refine (ref_put b tb sb ov { e with low := 2 * lo } 0 _ H1.out (.inl rfl) (Hcost.out (2 * lo))).mono ?_
          rintro r w1 ⟨rfl, ov3, g1, g2⟩
          rw [← Hh2.out] at g1
          have H5 := Lib.hid g1
          have H6 := Lib.hid ((H2.out.trans g2).go sb)
          clear g1 g2
          go_wp2
          go_ret
          rw [Hby.out, Hm.out]
          exact ⟨rfl, ov3, H5.out, H6.out⟩
        · rw [if_neg k2] at hh
          have Hh2 := Lib.hid hh
          clear hh
          have h0 : RefIs (((w.setCell ⟨b, 2, none⟩ (.int .i64 (2 * lo))).setCell ⟨b, 2, none⟩ (.int .i64 (2 * lo - 512))).setCell ⟨b, 4, none⟩ (.int .i64 ((e.outs : Int) + 1))) b tb sb ov { e with low := 2 * lo - 512, outs := e.outs + 1 } :=
            RefIs.put (e := { e with low := 2 * lo - 512 }) (H1.out.put 2 _ _ rfl rfl rfl) 4 _ _ rfl rfl rfl
          rw [← Hh2.out] at h0
          have H5 := Lib.hid h0
          have H6 := Lib.hid (((H2.out.set 2 (.int .i64 (2 * lo - 512))).set 4 (.int .i64 ((e.outs : Int) + 1))).go sb)
          clear h0
          go_wp2
          go_ret
          rw [Hby.out, Hm.out]
          exact ⟨rfl, ov, H5.out, H6.out⟩
    · have hm0 : m = wi := by have := Hm1.out; omega
      subst hm0
      go_wp2_with fail
      go_region
      have hle : 2 * lo + m = l := by have := Hl.out; omega
      have h1 : RefIs ((w.setCell ⟨b, 2, none⟩ (.int .i64 (2 * lo))).setCell ⟨b, 2, none⟩ (.int .i64 (2 * lo + m))).drew b tb sb ov { e with low := l } := by
        have g1 : RefIs (w.setCell ⟨b, 2, none⟩ (.int .i64 (2 * lo))) b tb sb ov { e with low := 2 * lo } := He.out.put 2 _ _ rfl rfl rfl
        exact (g1.put 2 (.int .i64 (2 * lo + m)) { e with low := l } rfl rfl (by rw [hle]; rfl)).drew
      have h2 : EncTo w ((w.setCell ⟨b, 2, none⟩ (.int .i64 (2 * lo))).setCell ⟨b, 2, none⟩ (.int .i64 (2 * lo + m))).drew b ov ov := (((EncTo.refl _ _ _).set _ _).set _ _).drew
      generalize ((w.setCell ⟨b, 2, none⟩ (.int .i64 (2 * lo))).setCell ⟨b, 2, none⟩ (.int .i64 (2 * lo + m))).drew = wq at *
      clear hle
      have hh := Hh.out
      have H1 := Lib.hid h1
      have H2 := Lib.hid h2
      obtain ⟨-, -, d2, -, d4, -, -, -⟩ := h1.cellsAt
      have d2' : wq.cell? ⟨b, 2, none⟩ = some (.int .i64 l) := d2
      have d4' : wq.cell? ⟨b, 4, none⟩ = some (.int .i64 e.outs) := d4
      have y2 := free_of h1.cells 2
      have y4 := free_of h1.cells 4
      clear h1 h2 d2 d4 c2 c3 c4 c6 z2 z4
      by_cases k1 : 1024 ≤ l
      · rw [if_pos k1] at hh
        have Hh2 := Lib.hid hh
        clear hh
        go_wp2_with fail
        refine (ref_put b tb sb ov { e with low := l } 1 wq H1.out (.inr rfl) (Hcost.out l)).mono ?_
        rintro r w1 ⟨rfl, ov3, g1, g2⟩
        obtain ⟨-, -, q2, -, -, -, -, -⟩ := g1.cellsAt
        have q2' : w1.cell? ⟨b, 2, none⟩ = some (.int .i64 l) := q2
        have x2 := free_of g1.cells 2
        have h5 : RefIs (w1.setCell ⟨b, 2, none⟩ (.int .i64 (l - 1024))) b tb sb ov3 { Enc.put { e with low := l } 1 with low := l - 1024 } := g1.put 2 (.int .i64 (l - 1024)) { Enc.put { e with low := l } 1 with low := l - 1024 } rfl rfl rfl
        rw [← Hh2.out] at h5
        have H5 := Lib.hid h5
        have H6 := Lib.hid (((H2.out.trans g2).set 2 (.int .i64 (l - 1024))).go sb)
        clear g1 g2 q2 h5
        go_wp2
        go_ret
        rw [Hby.out, Hm.out]
        exact ⟨rfl, ov3, H5.out, H6.out⟩
      · rw [if_neg k1] at hh
        by_cases k2 : l < 512
        · rw [if_pos k2] at hh
          have Hh2 := Lib.hid hh
          clear hh
          go_wp2_with fail
          refine (ref_put b tb sb ov { e with low := l } 0 wq H1.out (.inl rfl) (Hcost.out l)).mono ?_
          rintro r w1 ⟨rfl, ov3, g1, g2⟩
          rw [← Hh2.out] at g1
          have H5 := Lib.hid g1
          have H6 := Lib.hid ((H2.out.trans g2).go sb)
          clear g1 g2
          go_wp2
          go_ret
          rw [Hby.out, Hm.out]
          exact ⟨rfl, ov3, H5.out, H6.out⟩
        · rw [if_neg k2] at hh
          have Hh2 := Lib.hid hh
          clear hh
          have h0 : RefIs ((wq.setCell ⟨b, 2, none⟩ (.int .i64 (l - 512))).setCell ⟨b, 4, none⟩ (.int .i64 ((e.outs : Int) + 1))) b tb sb ov { e with low := l - 512, outs := e.outs + 1 } :=
            RefIs.put (e := { e with low := l - 512 }) (H1.out.put 2 _ _ rfl rfl rfl) 4 _ _ rfl rfl rfl
          rw [← Hh2.out] at h0
          have H5 := Lib.hid h0
          have H6 := Lib.hid (((H2.out.set 2 (.int .i64 (l - 512))).set 4 (.int .i64 ((e.outs : Int) + 1))).go sb)
          clear h0
          go_wp2
          go_ret
          rw [Hby.out, Hm.out]
          exact ⟨rfl, ov, H5.out, H6.out⟩
  · have hcf : e.may x = false := by simpa using hm
    have hby : e.bypass x = e := by unfold Enc.bypass; rw [if_neg hm]
    rw [hcf, hby]
    have hall := ref_guard e x hcf
    obtain ⟨-, -, -, -, -, -, c6, -⟩ := he.cellsAt
    obtain ⟨o, ho⟩ : ∃ o, o = e.over := ⟨_, rfl⟩
    rw [← ho] at c6 hall
    have He := Lib.hid he
    clear he hm hcf hby ho hg hn
    go_enter Tryd.func26, Tryd.ntmps26
    by_cases k3 : x < 0
    · go_wp2 <;> go_ret <;> exact ⟨rfl, ov, He.out, EncGo.refl _ _ _ _⟩
    · by_cases k4 : 1 < x
      · go_wp2 <;> go_ret <;> exact ⟨rfl, ov, He.out, EncGo.refl _ _ _ _⟩
      · obtain rfl : o = true := by rcases hall with h | h | h <;> first | omega | exact h
        go_wp2 <;> go_ret <;> exact ⟨rfl, ov, He.out, EncGo.refl _ _ _ _⟩
end Go.Proofs.YtibojidpifgblaaDoor
