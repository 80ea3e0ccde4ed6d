/-
  The walks over the document's own encoder: States, NewEncoder, Bin.
-/
import Derived.Test.YtibojidpifgblaaDoorRefB
namespace Go.Proofs.YtibojidpifgblaaDoor
open Go.RowKit

theorem RefIs.only {w w' : World} {b tb sb : Nat} {bv : Value} {e : Enc} {S : List Nat} (h : RefIs w b tb sb bv e) (ho : Only S w w') (h1 : b ∉ S) (h2 : tb ∉ S) (h3 : sb ∉ S) (h4 : ∀ g, bv.ownBlock = some g → g ∉ S) : RefIs w' b tb sb bv e := by
  refine ⟨ho.heap h.cells h1, ho.heap h.tab h2, ho.heap h.sts h3, h.apart, ownsRow_of_block h.out fun g hg => ?_⟩
  obtain ⟨cur, hc⟩ := ownsRow_block h.out hg
  exact ho.block g (lt_of_block hc) (h4 g hg)

set_option maxRecDepth 100000 in
set_option maxHeartbeats 800000 in
theorem ref_begin (v : Value) (xs : List Int) (w : World) (hv : IntSlice w v xs) (hl : xs.length ≤ 17592186044414) :
    Calls Tryd.prog 55 #[v] w fun e w' => ∃ g, e = .returned (.slice (some ⟨g, 0, none⟩) xs.length xs.length) ∧ w.heap.size ≤ g ∧ w'.heap[g]? = some (.cells (ints (beginOf xs)) 3 (0, 0)) ∧ Only [] w w' := by
  obtain ⟨ao, cap, rfl, ha⟩ := hv
  go_enter Tryd.func55, Tryd.ntmps55
  go_wp2_with (at_make; refine wpList_make1B rfl _ _ rfl elt64 rfl xs.length rfl rfl rfl rfl (by omega) (by omega) ?_)
  intro w1 hb ho hsz
  rw [ints_replicate] at hb
  have Hb := Lib.hid hb
  have Ho := Lib.hid ho
  clear hb ho hsz
  go_wp2
  go_loopw [4] (fun i wr => ∃ k : Nat, k ≤ xs.length ∧ i = .int .i64 k ∧ wr.heap[w.heap.size]? = some (.cells (ints (fillTo (fun i => (beginOf xs).getD i 0) xs.length k)) 3 (0, 0)) ∧ Only [] w wr) (fun i _ => xs.length - (intOf i).toNat)
  case atStart => exact ⟨0, Nat.zero_le _, rfl, by rw [fillTo_zero]; exact Hb.out, Ho.out⟩
  case round =>
    obtain ⟨k, hk, rfl, hblk, hon⟩ := hrel
    by_cases hlt : k < xs.length
    · rcases ha with ha | ⟨ga, oa, rfl, ha⟩
      · simp [ha] at hlt
      have c1 := hon.cell (ha k hlt) (by simp)
      have c2 : wr.cell? ⟨w.heap.size, k, none⟩ = some (.int .i64 ((fillTo (fun i => (beginOf xs).getD i 0) xs.length k).getD k 0)) := by
        rw [cells_of hblk]; exact ints_at _ _ (by rw [fillTo_length]; exact hlt)
      have z := free_of hblk k
      have hbe := beginOf_at xs k hlt
      generalize hx : xs.getD k 0 = x at *
      have Hblk := Lib.hid hblk
      have Hon := Lib.hid hon
      have Hbe := Lib.hid hbe
      clear hblk hon hbe ha hx
      by_cases hin : 0 ≤ x ∧ x < 128
      · obtain ⟨hx0, hx1⟩ := hin
        go_wp2
        go_roundw
        case rel =>
          refine ⟨k + 1, by omega, by go_num, ?_, Hon.out.setCell (.inr (by simp)) _⟩
          rw [heap_set_same _ Hblk.out, ints_setIf, fillTo_set]
          rw [Hbe.out, if_pos ⟨hx0, hx1⟩]
        case measure => simp [intOf] <;> omega
      · have hfill : fillTo (fun i => (beginOf xs).getD i 0) xs.length k = fillTo (fun i => (beginOf xs).getD i 0) xs.length (k + 1) := by
          unfold fillTo
          apply List.map_congr_left
          intro c hc
          by_cases h1 : c = k
          · have h2 := Hbe.out
            rw [if_neg hin] at h2
            rw [h1, if_neg (by omega), if_pos (by omega)]
            exact h2.symm
          · have h2 : (c < k + 1) ↔ (c < k) := by omega
            simp [h2]
        rw [hfill] at Hblk
        have Hblk2 := Lib.hid Hblk.out
        clear hfill
        go_wp2 <;> go_roundw
        case rel => exact ⟨k + 1, by omega, by go_num, Hblk2.out, Hon.out⟩
        case measure => simp [intOf] <;> omega
        case rel => exact ⟨k + 1, by omega, by go_num, Hblk2.out, Hon.out⟩
        case measure => simp [intOf] <;> omega
    · obtain rfl : k = xs.length := by omega
      have hb2 := hblk
      rw [fillTo_full, ← beginOf_length xs, fill_list] at hb2
      have Hb2 := Lib.hid hb2
      clear hb2 hblk
      go_wp2
      go_ret
      exact ⟨_, rfl, Nat.le_refl _, Hb2.out, hon⟩

set_option maxRecDepth 100000 in
theorem ref_new (v : Value) (xs : List Int) (w : World) (hv : IntSlice w v xs) (hl : xs.length ≤ 17592186044414) :
    Calls Tryd.prog 23 #[v] w fun r w' => ∃ b tb sb, r = .returned (.pointer (some ⟨b, 0, none⟩)) ∧ RefIs w' b tb sb (.slice none 0 0) (Enc.new xs) ∧ Only [] w w' ∧ w.heap.size ≤ b ∧ w.heap.size ≤ tb ∧ w.heap.size ≤ sb := by
  have Hv := Lib.hid hv
  go_enter Tryd.func23, Tryd.ntmps23
  go_wp2_with fail
  refine (ref_begin v xs w hv hl).mono ?_
  rintro r1 w1 ⟨sb, rfl, hsb, hst, ho⟩
  have Hst := Lib.hid hst
  have Ho := Lib.hid ho
  have hsl := lt_of_block hst
  clear hst ho hv
  go_wp2_with fail
  refine (ref_widths w1).mono ?_
  rintro r2 w2 ⟨rfl, rfl⟩
  have htb := heap_alloc_at w1 (.cells (ints widthL) 3)
  have hst2 := heap_alloc_lt (.cells (ints widthL) 3) Hst.out
  have ho2 := Ho.out.alloc (.cells (ints widthL) 3)
  obtain ⟨tb, htbe⟩ : ∃ t, t = w1.heap.size := ⟨_, rfl⟩
  rw [← htbe] at htb ⊢
  have htl : w.heap.size ≤ tb := by rw [htbe]; exact Ho.out.size
  have hne : tb ≠ sb := by omega
  generalize w1.alloc (.cells (ints widthL) 3) = w2 at *
  have Htb := Lib.hid htb
  have Hst2 := Lib.hid hst2
  have Ho2 := Lib.hid ho2
  clear htb hst2 ho2 htbe
  go_wp2
  go_ret
  refine ⟨w2.heap.size, tb, sb, rfl, ⟨?_, heap_alloc_lt _ Htb.out, heap_alloc_lt _ Hst2.out, hne, World.ownsRow_nil _ _ _ _⟩, Ho2.out.alloc _, Ho2.out.size, htl, hsb⟩
  rw [heap_alloc_at]
  have hbl : (Enc.new xs).st.length = xs.length := beginOf_length xs
  rw [hbl]
  rfl

set_option maxRecDepth 100000 in
set_option maxHeartbeats 1600000 in
theorem ref_bin (b tb sb : Nat) (ov : Value) (e : Enc) (c x : Int) (w : World) (he : RefIs w b tb sb ov e) (hg : e.Good) (hn : e.cost < 700000000) :
    Calls Tryd.prog 24 #[.pointer (some ⟨b, 0, none⟩), .int .i64 c, .int .i64 x] w fun r w' => r = .returned (.int .i64 (codeOf (e.canBin c x))) ∧ ∃ ov', RefIs w' b tb sb ov' (e.bin c x) ∧ EncGo w w' b sb ov ov' := by
  by_cases hcan : e.canBin c x = true
  · have hm : e.may x = true ∧ 0 ≤ c ∧ c < e.st.length := by
      unfold Enc.canBin at hcan
      rw [Bool.and_eq_true] at hcan
      exact ⟨hcan.1, by simpa using hcan.2⟩
    obtain ⟨hm, hc0, hc1⟩ := hm
    have hbin : e.bin c x = Enc.norm 8 (e.narrow c.toNat x) := by unfold Enc.bin; rw [if_pos hcan]
    obtain ⟨i, rfl⟩ := Int.eq_ofNat_of_zero_le hc0
    rw [Int.toNat_natCast] at hbin
    obtain ⟨hx, hov⟩ := e.may_bit x hm
    have hnar := e.ok_narrow i x hg.ok hg.wide
    have hs := hg.ok.st i
    obtain ⟨k, r, hkr, hk, hr⟩ := state_parts (e.st.getD i 0) hs.1 hs.2
    have hw0 := hg.wide
    have hw1 := hg.ok.wid1
    have hlo0 := hg.ok.low
    have hlo1 := hg.ok.top
    obtain ⟨q, hq, hq4⟩ : ∃ q : Nat, e.wid / 64 % 4 = q ∧ q < 4 := ⟨(e.wid / 64 % 4).toNat, by omega, by omega⟩
    obtain ⟨less, hless⟩ : ∃ l, l = widthL.getD (4 * k + q) 0 := ⟨_, rfl⟩
    have hwo : widthOf (e.st.getD i 0) (e.wid / 64 % 4) = less := by rw [hless, hq, hkr]; unfold widthOf; congr 1; omega
    have hlr := widthL_range (4 * k + q) (by omega)
    rw [← hless] at hlr
    have hcl : i < e.st.length := by omega
    have c9 := he.state i hcl
    have ct : w.cell? ⟨tb, 4 * k + q, none⟩ = some (.int .i64 less) := by rw [cells_of he.tab, hless]; exact ints_at _ _ (by rw [widthL_len]; omega)
    obtain ⟨c0, -, c2, c3, -, -, c6, c7⟩ := he.cellsAt
    rw [hov] at c6
    have z2 := free_of he.cells 2
    have z3 := free_of he.cells 3
    rw [hkr] at c9
    obtain ⟨L, hL⟩ : ∃ L, L = e.st.length := ⟨_, rfl⟩
    obtain ⟨lo, hlo⟩ : ∃ l, l = e.low := ⟨_, rfl⟩
    obtain ⟨wi, hwi⟩ : ∃ l, l = e.wid := ⟨_, rfl⟩
    rw [← hL] at c0 hcl hc1
    rw [← hlo] at c2 hlo0 hlo1
    rw [← hwi] at c3 hw0 hw1 hlo1 hq
    have hd1 : Int.tdiv (2 * (k : Int) + r) 2 = k := by rw [Int.tdiv_eq_ediv_of_nonneg (by omega)]; omega
    have hd2 : Int.tmod (2 * (k : Int) + r) 2 = r := by rw [Int.tmod_eq_emod_of_nonneg (by omega)]; omega
    have hd3 : Int.tmod (Int.tdiv wi 64) 4 = q := by rw [Int.tdiv_eq_ediv_of_nonneg (by omega), Int.tmod_eq_emod_of_nonneg (by omega)]; exact hq
    have hsb : sb ≠ b := block_type he.sts he.cells (by decide)
    have htb : tb ≠ b := block_type he.tab he.cells (by decide)
    have hts : tb ≠ sb := he.apart
    obtain ⟨hlr0, hlr1⟩ := hlr
    have hx0 : 0 ≤ x := by omega
    have hx1 : x ≤ 1 := by omega
    have He := Lib.hid he
    have Hnar := Lib.hid hnar
    have Hn := Lib.hid hn
    have HL := Lib.hid hL
    have Hlo := Lib.hid hlo
    have Hwi := Lib.hid hwi
    have Hkr := Lib.hid hkr
    have Hwo := Lib.hid hwo
    have Hbin := Lib.hid hbin
    have Hcan := Lib.hid hcan
    clear he hnar hn hL hlo hwi hkr hwo hs hless hbin hcan hm hg hov
    go_enter Tryd.func24, Tryd.ntmps24
    by_cases hxr : x = (r : Int)
    · subst hxr
      go_wp2_with fail
      go_quiet (fail)
      go_wp2_with fail
      have h1 : RefIs ((w.drewN nq).setCell ⟨b, 3, none⟩ (.int .i64 (wi - less))) b tb sb ov { e with wid := e.wid - less } := (He.out.drewN nq).put 3 _ _ rfl rfl (by rw [Hwi.out]; rfl)
      have h2 : EncGo w ((w.drewN nq).setCell ⟨b, 3, none⟩ (.int .i64 (wi - less))) b sb ov ov := ((EncGo.refl _ _ _ _).drewN nq).set _ _
      generalize (w.drewN nq).setCell ⟨b, 3, none⟩ (.int .i64 (wi - less)) = wq at *
      have htq := h1
      obtain ⟨e0, -, -, -, -, -, -, -⟩ := h1.cellsAt
      have e9 := h1.state i (by show i < e.st.length; rw [← HL.out]; exact hcl)
      dsimp only at e9 e0
      rw [Hkr.out] at e9
      rw [← HL.out] at e0
      have H1 := Lib.hid h1
      have H1d := Lib.hid h1.drew
      have H2 := Lib.hid h2
      have hkk : 2 * (k : Int) + r < 128 := by omega
      clear h1 h2 htq c0 c2 c3 c6 c7 c9 ct z2 z3
      go_region_held3 (fun w' => w'.cell? ⟨b, 0, none⟩ = some (.slice (some ⟨sb, 0, none⟩) L L)) (first | exact e0 | go_keep | assumption)
        (first | (go_at_call 15; refine (ref_next (2 * (k : Int) + r) true wq.drew).mono ?_; rintro r2 w2 ⟨rfl, ho⟩; have g1 := H1d.out.only ho (by simp) (by simp) (by simp) (by simp); have ez := free_of g1.sts i; have e5 : w2.cell? ⟨b, 0, none⟩ = some (.slice (some ⟨sb, 0, none⟩) L L) := ho.cell (w := wq.drew) e0 (by simp); have e6 : w2.cell? ⟨sb, i, none⟩ = some (.int .i64 (2 * (k : Int) + r)) := ho.cell (w := wq.drew) e9 (by simp)))
      have hstep : stepOf (2 * (k : Int) + r) true = nextOf (2 * (k : Int) + r) true := by unfold stepOf; rw [if_pos ⟨by omega, hkk⟩]
      rw [hstep]
      have h3 : RefIs (w2.setCell ⟨sb, i, none⟩ (.int .i64 (nextOf (2 * (k : Int) + r) true))) b tb sb ov (e.narrow i (r : Int)) := by
        rw [e.narrow_likely i (r : Int) (2 * (k : Int) + r) less Hkr.out Hwo.out (by omega)]
        exact g1.setState i _
      have h4 : EncGo w (w2.setCell ⟨sb, i, none⟩ (.int .i64 (nextOf (2 * (k : Int) + r) true))) b sb ov ov := (EncGo.trans (H2.out.drew) ⟨ho.mono (by simp), fun g hg => .inl hg⟩).setS _ _
      generalize w2.setCell ⟨sb, i, none⟩ (.int .i64 (nextOf (2 * (k : Int) + r) true)) = wn at *
      have H3 := Lib.hid h3
      have H4 := Lib.hid h4
      clear h3 h4 e0 e9 e5 e6 ez g1 ho hstep
      go_wp2_with fail
      refine (ref_norm b tb sb _ _ wn H3.out Hnar.out.1 (by rw [Hnar.out.2.1]; have := Hn.out; omega) Hnar.out.2.2).mono ?_
      rintro r3 w3 ⟨rfl, ov3, g1, g2⟩
      have H5 := Lib.hid g1
      have H6 := Lib.hid (H4.out.trans (g2.go sb))
      clear g1 g2
      go_wp2
      go_ret
      rw [Hcan.out, Hbin.out]
      exact ⟨rfl, ov3, H5.out, H6.out⟩
    · have hb1 : (x == (r : Int)) = false := by simp [hxr]
      go_wp2_with fail
      go_quiet (fail)
      go_wp2_with fail
      go_region
      go_wp2_with fail
      have h1 : RefIs (((((w.drewN nq).setCell ⟨b, 3, none⟩ (.int .i64 (wi - less))).setCell ⟨b, 2, none⟩ (.int .i64 (lo + (wi - less)))).setCell ⟨b, 3, none⟩ (.int .i64 less)).drew) b tb sb ov { e with low := e.low + (e.wid - less), wid := less } := by
        have g1 : RefIs ((w.drewN nq).setCell ⟨b, 3, none⟩ (.int .i64 (wi - less))) b tb sb ov { e with wid := e.wid - less } := (He.out.drewN nq).put 3 _ _ rfl rfl (by rw [Hwi.out]; rfl)
        have g2 : RefIs (((w.drewN nq).setCell ⟨b, 3, none⟩ (.int .i64 (wi - less))).setCell ⟨b, 2, none⟩ (.int .i64 (lo + (wi - less)))) b tb sb ov { e with low := e.low + (e.wid - less), wid := e.wid - less } := g1.put 2 _ _ rfl rfl (by rw [Hwi.out, Hlo.out]; rfl)
        exact (g2.put 3 (.int .i64 less) { e with low := e.low + (e.wid - less), wid := less } rfl rfl rfl).drew
      have h2 : EncGo w (((((w.drewN nq).setCell ⟨b, 3, none⟩ (.int .i64 (wi - less))).setCell ⟨b, 2, none⟩ (.int .i64 (lo + (wi - less)))).setCell ⟨b, 3, none⟩ (.int .i64 less)).drew) b sb ov ov :=
        (((((EncGo.refl _ _ _ _).drewN nq).set _ _).set _ _).set _ _).drew
      generalize (((((w.drewN nq).setCell ⟨b, 3, none⟩ (.int .i64 (wi - less))).setCell ⟨b, 2, none⟩ (.int .i64 (lo + (wi - less)))).setCell ⟨b, 3, none⟩ (.int .i64 less)).drew) = wq at *
      have htq := h1
      obtain ⟨e0, -, -, -, -, -, -, -⟩ := h1.cellsAt
      have e9 := h1.state i (by show i < e.st.length; rw [← HL.out]; exact hcl)
      dsimp only at e9 e0
      rw [Hkr.out] at e9
      rw [← HL.out] at e0
      have H1 := Lib.hid h1
      have H1d := Lib.hid h1.drew
      have H2 := Lib.hid h2
      have hkk : 2 * (k : Int) + r < 128 := by omega
      clear h1 h2 htq c0 c2 c3 c6 c7 c9 ct z2 z3
      go_region_held3 (fun w' => w'.cell? ⟨b, 0, none⟩ = some (.slice (some ⟨sb, 0, none⟩) L L)) (first | exact e0 | go_keep | assumption)
        (first | (go_at_call 15; refine (ref_next (2 * (k : Int) + r) false wq.drew).mono ?_; rintro r2 w2 ⟨rfl, ho⟩; have g1 := H1d.out.only ho (by simp) (by simp) (by simp) (by simp); have ez := free_of g1.sts i; have e5 : w2.cell? ⟨b, 0, none⟩ = some (.slice (some ⟨sb, 0, none⟩) L L) := ho.cell (w := wq.drew) e0 (by simp); have e6 : w2.cell? ⟨sb, i, none⟩ = some (.int .i64 (2 * (k : Int) + r)) := ho.cell (w := wq.drew) e9 (by simp)))
      have hstep : stepOf (2 * (k : Int) + r) false = nextOf (2 * (k : Int) + r) false := by unfold stepOf; rw [if_pos ⟨by omega, hkk⟩]
      rw [hstep]
      have h3 : RefIs (w2.setCell ⟨sb, i, none⟩ (.int .i64 (nextOf (2 * (k : Int) + r) false))) b tb sb ov (e.narrow i x) := by
        rw [e.narrow_other i x (2 * (k : Int) + r) less Hkr.out Hwo.out (by omega)]
        exact g1.setState i _
      have h4 : EncGo w (w2.setCell ⟨sb, i, none⟩ (.int .i64 (nextOf (2 * (k : Int) + r) false))) b sb ov ov := (EncGo.trans (H2.out.drew) ⟨ho.mono (by simp), fun g hg => .inl hg⟩).setS _ _
      generalize w2.setCell ⟨sb, i, none⟩ (.int .i64 (nextOf (2 * (k : Int) + r) false)) = wn at *
      have H3 := Lib.hid h3
      have H4 := Lib.hid h4
      clear h3 h4 e0 e9 e5 e6 ez g1 ho hstep
      go_wp2_with fail
      refine (ref_norm b tb sb _ _ wn H3.out Hnar.out.1 (by rw [Hnar.out.2.1]; have := Hn.out; omega) Hnar.out.2.2).mono ?_
      rintro r3 w3 ⟨rfl, ov3, g1, g2⟩
      have H5 := Lib.hid g1
      have H6 := Lib.hid (H4.out.trans (g2.go sb))
      clear g1 g2
      go_wp2
      go_ret
      rw [Hcan.out, Hbin.out]
      exact ⟨rfl, ov3, H5.out, H6.out⟩
  · have hcf : e.canBin c x = false := by simpa using hcan
    have hbin : e.bin c x = e := by unfold Enc.bin; rw [hcf]; rfl
    rw [hcf, hbin]
    obtain ⟨c0, -, -, -, -, -, c6, -⟩ := he.cellsAt
    obtain ⟨L, hL⟩ : ∃ L, L = e.st.length := ⟨_, rfl⟩
    have hall : c < 0 ∨ (L : Int) ≤ c ∨ x < 0 ∨ 1 < x ∨ e.over = true := by
      unfold Enc.canBin Enc.may at hcf
      rw [← hL] at hcf
      cases ho : e.over
      · rw [ho] at hcf
        simp only [Bool.not_false, Bool.and_true, Bool.and_eq_false_iff, Bool.or_eq_false_iff, beq_eq_false_iff_ne, decide_eq_false_iff_not] at hcf
        omega
      · simp
    rw [← hL] at c0
    obtain ⟨o, ho⟩ : ∃ o, o = e.over := ⟨_, rfl⟩
    rw [← ho] at c6 hall
    have He := Lib.hid he
    clear he hcan hcf hbin hL ho hg hn
    go_enter Tryd.func24, Tryd.ntmps24
    by_cases k1 : c < 0
    · go_wp2 <;> go_ret <;> exact ⟨rfl, ov, He.out, EncGo.refl _ _ _ _⟩
    · by_cases k2 : (L : Int) ≤ c
      · go_wp2 <;> go_ret <;> exact ⟨rfl, ov, He.out, EncGo.refl _ _ _ _⟩
      · by_cases k3 : x < 0
        · go_wp2 <;> go_ret <;> exact ⟨rfl, ov, He.out, EncGo.refl _ _ _ _⟩
        · by_cases k4 : 1 < x
          · go_wp2 <;> go_ret <;> exact ⟨rfl, ov, He.out, EncGo.refl _ _ _ _⟩
          · obtain rfl : o = true := by rcases hall with h | h | h | h | h <;> first | omega | exact h
            go_wp2 <;> go_ret <;> exact ⟨rfl, ov, He.out, EncGo.refl _ _ _ _⟩
end Go.Proofs.YtibojidpifgblaaDoor
