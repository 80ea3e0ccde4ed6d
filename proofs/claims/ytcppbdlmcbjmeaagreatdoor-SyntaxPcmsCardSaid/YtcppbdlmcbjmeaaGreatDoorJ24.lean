/-
  The walks over package engine's encoder: Bypass, Terminate, Bytes, States, NewEncoder.
-/
import Derived.Test.YtcppbdlmcbjmeaaGreatDoorJ23
import Derived.Test.YtcppbdlmcbjmeaaGreatDoorJ01
namespace Go.Proofs.YtcppbdlmcbjmeaaGreatDoor
open Go.RowKit

set_option maxRecDepth 100000 in
set_option maxHeartbeats 1600000 in
theorem eng_bypass (b tb sb : Nat) (ov : Value) (e : Enc) (x : Int) (w : World) (he : EncIs w b tb sb ov e) (hg : e.Good) (hn : e.cost < 700000000) :
    Calls Tryz.prog 222 #[.pointer (some ⟨b, 0, none⟩), .int .i64 x] w fun r w' => r = .returned (.int .i64 (codeOf (e.may x))) ∧ ∃ ov', EncIs w' b tb sb ov' (e.bypass x) ∧ EncGo w w' b sb ov ov' := by
  have hmay := eng_may b tb sb ov e x w he
  by_cases hm : e.may x = true
  · have hby : e.bypass x = e.half x := by unfold Enc.bypass; rw [if_pos hm]
    rw [hby, hm]
    rw [hm] at hmay
    have hx := (e.may_bit x hm).1
    obtain ⟨-, -, c2, c3, c4, -, -, -, -⟩ := he.cellsAt
    have z2 := free_of he.cells 2
    have z4 := free_of he.cells 4
    obtain ⟨m, hm1, hm2⟩ : ∃ m, x * e.wid = m ∧ (m = 0 ∨ m = e.wid) := by rcases hx with rfl | rfl <;> simp
    have hw0 := hg.wide
    have hw1 := hg.ok.wid1
    have hlo0 := hg.ok.low
    have hlo1 := hg.ok.top
    have hou : (e.outs : Int) ≤ 900000000 := by unfold Enc.cost at hn; omega
    have hh : e.half x = (if 1024 ≤ 2 * e.low + m then Enc.put { e with low := 2 * e.low + m - 1024 } 1 else if 2 * e.low + m < 512 then Enc.put { e with low := 2 * e.low + m } 0 else { e with low := 2 * e.low + m - 512, outs := e.outs + 1 }) := by
      unfold Enc.half
      dsimp only
      rw [hm1]
    obtain ⟨lo, hlo⟩ : ∃ l, l = e.low := ⟨_, rfl⟩
    obtain ⟨wi, hwi⟩ : ∃ l, l = e.wid := ⟨_, rfl⟩
    rw [← hlo] at c2 hlo0 hlo1 hh
    rw [← hwi] at c3 hw0 hw1 hlo1 hm1 hm2
    have hwr : IntKind.i64.wrap (x * wi) = m := by rw [hm1, IntKind.wrap_i64]; omega
    have He := Lib.hid he
    have Hn := Lib.hid hn
    have Hg := Lib.hid hg
    have Hlo := Lib.hid hlo
    have Hwi := Lib.hid hwi
    have Hmay := Lib.hid hmay
    have Hm1 := Lib.hid hm1
    have Hh := Lib.hid hh
    clear he hn hg hlo hwi hmay hm hby hh hm1
    go_enter Tryz.func222, Tryz.ntmps222
    go_wp2_with fail
    refine Hmay.out.mono ?_
    rintro r0 w0 ⟨rfl, rfl⟩
    rw [show codeOf true = 0 from rfl]
    go_wp2
    go_region
    have h1 : EncIs (w.setCell ⟨b, 2, none⟩ (.int .i64 (2 * lo + m))).drew b tb sb ov { e with low := 2 * lo + m } := (He.out.put 2 (.int .i64 (2 * lo + m)) { e with low := 2 * lo + m } rfl rfl rfl).drew
    have h2 : EncTo w (w.setCell ⟨b, 2, none⟩ (.int .i64 (2 * lo + m))).drew b ov ov := ((EncTo.refl _ _ _).set _ _).drew
    generalize (w.setCell ⟨b, 2, none⟩ (.int .i64 (2 * lo + m))).drew = wq at *
    obtain ⟨-, -, d2, -, d4, -, -, -, -⟩ := h1.cellsAt
    have d2' : wq.cell? ⟨b, 2, none⟩ = some (.int .i64 (2 * lo + m)) := d2
    have d4' : wq.cell? ⟨b, 4, none⟩ = some (.int .i64 e.outs) := d4
    have y2 := free_of h1.cells 2
    have y4 := free_of h1.cells 4
    have H1 := Lib.hid h1
    have H2 := Lib.hid h2
    obtain ⟨l, hl⟩ : ∃ l, l = 2 * lo + m := ⟨_, rfl⟩
    have hh := Hh.out
    rw [← hl] at d2' H1 hh
    have hl0 : 0 ≤ l := by omega
    have hl1 : l ≤ 2048 := by omega
    have Hl := Lib.hid hl
    have hbits := Hg.out.ok.bits
    have Hbits := Lib.hid hbits
    clear d2 d4 h1 h2 c2 c3 c4 z2 z4 hl hm2 hwr hbits
    by_cases k1 : 1024 ≤ l
    · rw [if_pos k1] at hh
      have Hh2 := Lib.hid hh
      clear hh
      have h0 : EncIs (wq.setCell ⟨b, 2, none⟩ (.int .i64 (l - 1024))) b tb sb ov { e with low := l - 1024 } := H1.out.put 2 _ _ rfl rfl rfl
      have H0 := Lib.hid h0
      clear h0
      go_wp2_with fail
      refine (eng_put b tb sb ov _ 1 _ H0.out (.inr rfl) Hbits.out (by have := Hn.out; unfold Enc.cost at *; dsimp only; omega)).mono ?_
      rintro r w1 ⟨rfl, ov3, g1, g2⟩
      have H5 := Lib.hid g1
      rw [← Hh2.out] at H5
      have H6 := Lib.hid (((H2.out.set 2 (.int .i64 (l - 1024))).trans g2).go sb)
      clear g1 g2
      go_wp2
      go_ret
      exact ⟨rfl, ov3, H5.out, H6.out⟩
    · rw [if_neg k1] at hh
      by_cases k2 : l < 512
      · rw [if_pos k2] at hh
        have Hh2 := Lib.hid hh
        clear hh
        go_wp2_with fail
        refine (eng_put b tb sb ov _ 0 _ H1.out (.inl rfl) Hbits.out (by have := Hn.out; unfold Enc.cost at *; dsimp only; omega)).mono ?_
        rintro r w1 ⟨rfl, ov3, g1, g2⟩
        have H5 := Lib.hid g1
        rw [← Hh2.out] at H5
        have H6 := Lib.hid ((H2.out.trans g2).go sb)
        clear g1 g2
        go_wp2
        go_ret
        exact ⟨rfl, ov3, H5.out, H6.out⟩
      · rw [if_neg k2] at hh
        have Hh2 := Lib.hid hh
        clear hh
        have h0 : EncIs ((wq.setCell ⟨b, 2, none⟩ (.int .i64 (l - 512))).setCell ⟨b, 4, none⟩ (.int .i64 ((e.outs : Int) + 1))) b tb sb ov { e with low := l - 512, outs := e.outs + 1 } :=
          EncIs.put (e := { e with low := l - 512 }) (H1.out.put 2 _ _ rfl rfl rfl) 4 _ _ rfl rfl rfl
        have H5 := Lib.hid h0
        rw [← Hh2.out] at H5
        have H6 := Lib.hid (((H2.out.set 2 (.int .i64 (l - 512))).set 4 (.int .i64 ((e.outs : Int) + 1))).go sb)
        clear h0
        go_wp2
        go_ret
        exact ⟨rfl, ov, H5.out, H6.out⟩
  · have hby : e.bypass x = e := by unfold Enc.bypass; rw [if_neg hm]
    rw [hby]
    rw [show e.may x = false by simpa using hm] at hmay ⊢
    have He := Lib.hid he
    have Hmay := Lib.hid hmay
    clear he hby hmay hn hg hm
    go_enter Tryz.func222, Tryz.ntmps222
    go_wp2_with fail
    refine Hmay.out.mono ?_
    rintro r0 w0 ⟨rfl, rfl⟩
    rw [show codeOf false = 501 from rfl]
    go_wp2
    go_ret
    exact ⟨rfl, ov, He.out, EncGo.refl _ _ _ _⟩

set_option maxRecDepth 100000 in
set_option maxHeartbeats 1600000 in
theorem eng_term (b tb sb : Nat) (ov : Value) (e : Enc) (x : Int) (w : World) (he : EncIs w b tb sb ov e) (hg : e.Good) (hn : e.cost < 700000000) :
    Calls Tryz.prog 38 #[.pointer (some ⟨b, 0, none⟩), .int .i64 x] w fun r w' => r = .returned (.int .i64 (codeOf (e.may x))) ∧ ∃ ov', EncIs w' b tb sb ov' (e.term x) ∧ EncGo w w' b sb ov ov' := by
  have hmay := eng_may b tb sb ov e x w he
  by_cases hm : e.may x = true
  · have hx := (e.may_bit x hm).1
    have hla := e.ok_last x hg
    have hno := Enc.ok_norm 8 _ hla.1 hla.2.2
    obtain ⟨-, -, c2, c3, -, -, -, -, -⟩ := he.cellsAt
    have z2 := free_of he.cells 2
    have z3 := free_of he.cells 3
    have hw0 := hg.wide
    have hw1 := hg.ok.wid1
    have hlo0 := hg.ok.low
    have hlo1 := hg.ok.top
    have He := Lib.hid he
    have Hn := Lib.hid hn
    have Hla := Lib.hid hla
    have Hno := Lib.hid hno
    rcases hx with rfl | rfl
    · have hby : e.term 0 = Enc.norm 8 (e.last 0) := by unfold Enc.term; rw [if_pos hm]; rfl
      rw [hby, hm]
      rw [hm] at hmay
      have Hmay := Lib.hid hmay
      clear he hn hg hmay hm hby hla hno
      go_enter Tryz.func38, Tryz.ntmps38
      go_wp2_with fail
      refine Hmay.out.mono ?_
      rintro r0 w0 ⟨rfl, rfl⟩
      rw [show codeOf true = 0 from rfl]
      have h1 : EncIs (w.setCell ⟨b, 3, none⟩ (.int .i64 (e.wid - 2))) b tb sb ov (e.last 0) := He.out.put 3 _ _ rfl rfl rfl
      have h2 : EncTo w (w.setCell ⟨b, 3, none⟩ (.int .i64 (e.wid - 2))) b ov ov := (EncTo.refl _ _ _).set _ _
      have H1 := Lib.hid h1
      have H2 := Lib.hid h2
      clear h1 h2
      go_wp2_with fail
      refine (eng_renorm b tb sb ov _ _ H1.out Hla.out.1 (by rw [Hla.out.2.1]; have := Hn.out; omega) Hla.out.2.2).mono ?_
      rintro r3 w3 ⟨rfl, ov3, g1, g2⟩
      have H5 := Lib.hid g1
      have H6 := Lib.hid ((H2.out.trans g2).go sb)
      clear g1 g2
      go_wp2
      go_ret
      exact ⟨rfl, ov3, H5.out, H6.out⟩
    · have hby : e.term 1 = (Enc.norm 8 (e.last 1)).close := by unfold Enc.term; rw [if_pos hm]; rfl
      rw [hby, hm]
      rw [hm] at hmay
      have Hmay := Lib.hid hmay
      clear he hn hg hmay hm hby hla hno
      go_enter Tryz.func38, Tryz.ntmps38
      go_wp2_with fail
      refine Hmay.out.mono ?_
      rintro r0 w0 ⟨rfl, rfl⟩
      rw [show codeOf true = 0 from rfl]
      go_wp2
      go_region
      have h1 : EncIs ((((w.setCell ⟨b, 3, none⟩ (.int .i64 (e.wid - 2))).setCell ⟨b, 2, none⟩ (.int .i64 (e.low + (e.wid - 2)))).setCell ⟨b, 3, none⟩ (.int .i64 2)).drew) b tb sb ov (e.last 1) := by
        have g1 : EncIs (w.setCell ⟨b, 3, none⟩ (.int .i64 (e.wid - 2))) b tb sb ov { e with wid := e.wid - 2 } := He.out.put 3 _ _ rfl rfl rfl
        have g2 : EncIs ((w.setCell ⟨b, 3, none⟩ (.int .i64 (e.wid - 2))).setCell ⟨b, 2, none⟩ (.int .i64 (e.low + (e.wid - 2)))) b tb sb ov { e with low := e.low + (e.wid - 2), wid := e.wid - 2 } := g1.put 2 (.int .i64 (e.low + (e.wid - 2))) { e with low := e.low + (e.wid - 2), wid := e.wid - 2 } rfl rfl rfl
        exact (g2.put 3 (.int .i64 2) (e.last 1) rfl rfl rfl).drew
      have h2 : EncTo w ((((w.setCell ⟨b, 3, none⟩ (.int .i64 (e.wid - 2))).setCell ⟨b, 2, none⟩ (.int .i64 (e.low + (e.wid - 2)))).setCell ⟨b, 3, none⟩ (.int .i64 2)).drew) b ov ov := ((((EncTo.refl _ _ _).set _ _).set _ _).set _ _).drew
      have H1 := Lib.hid h1
      have H2 := Lib.hid h2
      clear h1 h2
      go_wp2_with fail
      refine (eng_renorm b tb sb ov _ _ H1.out Hla.out.1 (by rw [Hla.out.2.1]; have := Hn.out; omega) Hla.out.2.2).mono ?_
      rintro r3 w3 ⟨rfl, ov3, g1, g2⟩
      have ht := H2.out.trans g2
      have hfc : (Enc.norm 8 (e.last 1)).cost < 800000000 := by have := Hno.out.2.2; rw [Hla.out.2.1] at this; have := Hn.out; omega
      have hfo := Hno.out.1
      clear g2 H1 H2 Hno Hla
      obtain ⟨f, hf⟩ : ∃ f, f = Enc.norm 8 (e.last 1) := ⟨_, rfl⟩
      rw [← hf] at g1 hfc hfo
      have Hf := Lib.hid hf
      have hlen : f.bits.length ≤ f.cost := by unfold Enc.cost; omega
      obtain ⟨-, -, d2, -, -, -, -, -, -⟩ := g1.cellsAt
      have hf0 := hfo.low
      have hf1 := hfo.top
      have hf2 := hfo.wid0
      have H1 := Lib.hid g1
      have Ht := Lib.hid ht
      have Hfc := Lib.hid hfc
      have Hfo := Lib.hid hfo
      have Hlen := Lib.hid hlen
      obtain ⟨p1, hp1, hp1b⟩ : ∃ p : Int, f.low / 512 % 2 = p ∧ (p = 0 ∨ p = 1) := ⟨_, rfl, by omega⟩
      obtain ⟨p2, hp2, hp2b⟩ : ∃ p : Int, f.low / 256 % 2 = p ∧ (p = 0 ∨ p = 1) := ⟨_, rfl, by omega⟩
      clear g1 ht hfc hfo c2 c3 z2 z3 hlen hf
      go_wp2_with fail
      refine (eng_put b tb sb ov3 f p1 _ H1.out hp1b Hfo.out.bits (by have := Hfc.out; omega)).mono ?_
      rintro r4 w4 ⟨rfl, ov4, g1, g2⟩
      obtain ⟨-, -, d3, -, -, -, -, -, -⟩ := g1.cellsAt
      have d3' : w4.cell? ⟨b, 2, none⟩ = some (.int .i64 f.low) := d3
      have hb4 := (Enc.ok_put f p1 hp1b Hfo.out).bits
      have hl4 : (f.put p1).bits.length ≤ (f.put p1).cost := by unfold Enc.cost; omega
      have hc4 := f.cost_put p1
      have G1 := Lib.hid g1
      have G2 := Lib.hid g2
      have Hb4 := Lib.hid hb4
      have Hl4 := Lib.hid (show (f.put p1).bits.length < 900000000 by have := Hfc.out; omega)
      clear g1 g2 d2 d3 hb4 hl4 hc4
      go_wp2_with fail
      refine (eng_bit b tb sb ov4 (f.put p1) p2 _ G1.out hp2b Hb4.out (by have := Hl4.out; omega)).mono ?_
      rintro r5 w5 ⟨rfl, ov5, g1, g2, g3⟩
      have hb5 : ∀ y ∈ ((f.put p1).bit p2).bits, y = 0 ∨ y = 1 := (Enc.ok_bit _ p2 hp2b (Enc.ok_put f p1 hp1b Hfo.out)).bits
      have G3 := Lib.hid g1
      have G4 := Lib.hid (show EncTo w4 w5 b ov4 ov5 from ⟨g2, g3⟩)
      have Hb5 := Lib.hid hb5
      clear g1 g2 g3 hb5
      go_wp2_with fail
      refine (eng_bit b tb sb ov5 ((f.put p1).bit p2) 1 _ G3.out (.inr rfl) Hb5.out (by have := Hl4.out; simp only [Enc.bit, List.length_append, List.length_singleton]; omega)).mono ?_
      rintro r6 w6 ⟨rfl, ov6, g1, g2, g3⟩
      have z6 := free_of g1.cells 6
      have d6 := g1.cellsAt.2.2.2.2.2.2.1
      have d6' : w6.cell? ⟨b, 6, none⟩ = some (.bool f.over) := d6
      have h7 : EncIs (w6.setCell ⟨b, 6, none⟩ (.bool true)) b tb sb ov6 f.close := by
        have := g1.put 6 (.bool true) { ((f.put p1).bit p2).bit 1 with over := true } rfl rfl rfl
        unfold Enc.close
        rw [hp1, hp2]
        exact this
      rw [Hf.out] at h7
      have h8 : EncTo w (w6.setCell ⟨b, 6, none⟩ (.bool true)) b ov ov6 := ((Ht.out.trans G2.out).trans G4.out).trans (EncTo.set ⟨g2, g3⟩ _ _)
      have H7 := Lib.hid h7
      have H8 := Lib.hid (h8.go sb)
      clear g1 g2 g3 h7 h8 d6
      go_wp2
      go_ret
      exact ⟨rfl, ov6, H7.out, H8.out⟩
  · have hby : e.term x = e := by unfold Enc.term; rw [if_neg hm]
    rw [hby]
    rw [show e.may x = false by simpa using hm] at hmay ⊢
    have He := Lib.hid he
    have Hmay := Lib.hid hmay
    clear he hby hmay hn hg hm
    go_enter Tryz.func38, Tryz.ntmps38
    go_wp2_with fail
    refine Hmay.out.mono ?_
    rintro r0 w0 ⟨rfl, rfl⟩
    rw [show codeOf false = 501 from rfl]
    go_wp2
    go_ret
    exact ⟨rfl, ov, He.out, EncGo.refl _ _ _ _⟩

set_option maxRecDepth 100000 in
theorem eng_bytes (b tb sb : Nat) (ov : Value) (e : Enc) (w : World) (he : EncIs w b tb sb ov e) :
    Calls Tryz.prog 44 #[.pointer (some ⟨b, 0, none⟩)] w fun r w' => r = .returned (.string (strOfNums (packed e.bits))) ∧ w = w' := by
  obtain ⟨-, -, -, -, -, -, -, c7, -⟩ := he.cellsAt
  have hcv := run_text (dst := 9) Tryz.underlying49 Tryz.underlying5 Tryz.underlying9 he.out
  have He := Lib.hid he
  clear he
  go_enter Tryz.func44, Tryz.ntmps44
  go_wp2
  go_ret
  exact ⟨rfl, rfl⟩

set_option maxRecDepth 100000 in
theorem eng_new (v : Value) (xs : List Int) (w : World) (hv : IntSlice w v xs) (hl : xs.length ≤ 17592186044414) (ha : Asc w) :
    Calls Tryz.prog 35 #[v] w fun r w' => ∃ b tb sb, r = .returned (.pointer (some ⟨b, 0, none⟩)) ∧ EncIs w' b tb sb (.slice none 0 0) (Enc.new xs) ∧ Only [] w w' ∧ w.heap.size ≤ b ∧ w.heap.size ≤ tb ∧ w.heap.size ≤ sb := by
  have Ha := Lib.hid ha
  have Hv := Lib.hid hv
  go_enter Tryz.func35, Tryz.ntmps35
  go_wp2_with fail
  refine (eng_get_new w ha).mono ?_
  rintro r1 w1 ⟨rfl, ht, ho⟩
  have Ht := Lib.hid ht
  have Ho := Lib.hid ho
  clear ht
  go_wp2_with fail
  refine (eng_begin v xs w1 (hv.only ho (by simp)) hl).mono ?_
  rintro r2 w2 ⟨sb, rfl, hsb, hst, ho2⟩
  have htb := Ht.out.only ho2 (by simp)
  have Htb := Lib.hid htb
  have Hst := Lib.hid hst
  have Ho2 := Lib.hid (ho.trans ho2)
  have Hsb := Lib.hid hsb
  clear htb hst ho ho2 hsb
  go_wp2
  go_ret
  refine ⟨w2.heap.size, w.heap.size, sb, rfl, ⟨?_, heap_alloc_lt _ Htb.out, heap_alloc_lt _ Hst.out, ?_⟩, Ho2.out.alloc _, Ho2.out.size, Nat.le_refl _, Nat.le_trans Ho.out.size Hsb.out⟩
  rotate_left
  · have h0 : packed (Enc.new xs).bits = [] := show packed [] = [] by decide
    rw [h0]
    exact World.ownsRow_nil _ _ _ _
  rw [heap_alloc_at]
  have hbl : (Enc.new xs).st.length = xs.length := beginOf_length xs
  rw [hbl]
  rfl
end Go.Proofs.YtcppbdlmcbjmeaaGreatDoor
