/-
  The walks over package engine's encoder: Bin.
-/
import Derived.Test.YtibojidpifgblaaDoorEngE
import Derived.Deep.RegionHeld3
namespace Go.Proofs.YtibojidpifgblaaDoor
open Go.RowKit

theorem EncIs.state {w : World} {b tb sb : Nat} {ov : Value} {e : Enc} (h : EncIs w b tb sb ov e) (i : Nat) (hi : i < e.st.length) : w.cell? ⟨sb, i, none⟩ = some (.int .i64 (e.st.getD i 0)) := by
  rw [cells_of h.sts]; exact ints_at _ _ hi
theorem EncIs.setState {w : World} {b tb sb : Nat} {ov : Value} {e : Enc} (h : EncIs w b tb sb ov e) (i : Nat) (v : Int) :
    EncIs (w.setCell ⟨sb, i, none⟩ (.int .i64 v)) b tb sb ov { e with st := e.st.set i v } := by
  refine ⟨?_, heap_set_other _ h.tab (block_type h.tab h.sts (by decide)), ?_, ?_⟩
  · have := heap_set_other (i := i) (.int .i64 v) h.cells (block_type h.cells h.sts (by decide))
    simpa using this
  · rw [heap_set_same _ h.sts, ints_setIf]
  · refine ownsRow_of_block h.out fun k hk => ?_
    obtain ⟨cur, hc⟩ := ownsRow_block h.out hk
    exact Below.heap_setCell _ _ _ _ (block_type hc h.sts (by decide))

theorem Enc.narrow_likely (e : Enc) (i : Nat) (x s l : Int) (hs : e.st.getD i 0 = s) (hl : widthOf (e.st.getD i 0) (e.wid / 64 % 4) = l) (h : x = s % 2) :
    e.narrow i x = { e with wid := e.wid - l, st := e.st.set i (nextOf s true) } := by
  unfold Enc.narrow
  dsimp only
  rw [if_pos (by rw [hs]; exact h), hl, hs]
theorem Enc.narrow_other (e : Enc) (i : Nat) (x s l : Int) (hs : e.st.getD i 0 = s) (hl : widthOf (e.st.getD i 0) (e.wid / 64 % 4) = l) (h : ¬ x = s % 2) :
    e.narrow i x = { e with low := e.low + (e.wid - l), wid := l, st := e.st.set i (nextOf s false) } := by
  unfold Enc.narrow
  dsimp only
  rw [if_neg (by rw [hs]; exact h), hl, hs]
/-- The same with the states' block. -/
structure EncGo (w w' : World) (b sb : Nat) (ov ov' : Value) : Prop where
  only : Only (b :: sb :: ov.ownBlock.toList) w w'
  new : ∀ g, ov'.ownBlock = some g → ov.ownBlock = some g ∨ w.heap.size ≤ g
theorem EncTo.go {w w' : World} {b : Nat} {ov ov' : Value} (h : EncTo w w' b ov ov') (sb : Nat) : EncGo w w' b sb ov ov' :=
  ⟨h.only.mono (by intro i hi; simp only [List.mem_cons] at *; rcases hi with hi | hi <;> simp [hi]), h.new⟩
theorem EncGo.refl (w : World) (b sb : Nat) (ov : Value) : EncGo w w b sb ov ov := ⟨Only.refl _ _, fun _ h => .inl h⟩
theorem EncGo.trans {w1 w2 w3 : World} {b sb : Nat} {o1 o2 o3 : Value} (h : EncGo w1 w2 b sb o1 o2) (k : EncGo w2 w3 b sb o2 o3) : EncGo w1 w3 b sb o1 o3 := by
  refine ⟨h.only.trans' k.only ?_, fun g hg => ?_⟩
  · intro i hi
    simp only [List.mem_cons, Option.mem_toList] at hi
    rcases hi with rfl | rfl | hi
    · exact .inl (by simp)
    · exact .inl (by simp)
    · rcases h.new i hi with h1 | h1
      · exact .inl (by simp [h1])
      · exact .inr h1
  · rcases k.new g hg with h1 | h1
    · exact h.new g h1
    · exact .inr (Nat.le_trans h.only.size h1)
theorem EncGo.set {w1 w2 : World} {b sb : Nat} {o1 o2 : Value} (h : EncGo w1 w2 b sb o1 o2) (i : Nat) (u : Value) : EncGo w1 (w2.setCell ⟨b, i, none⟩ u) b sb o1 o2 :=
  ⟨h.only.setCell (.inl (by simp)) _, h.new⟩
theorem EncGo.setS {w1 w2 : World} {b sb : Nat} {o1 o2 : Value} (h : EncGo w1 w2 b sb o1 o2) (i : Nat) (u : Value) : EncGo w1 (w2.setCell ⟨sb, i, none⟩ u) b sb o1 o2 :=
  ⟨h.only.setCell (.inl (by simp)) _, h.new⟩
theorem EncGo.drewN {w1 w2 : World} {b sb : Nat} {o1 o2 : Value} (h : EncGo w1 w2 b sb o1 o2) (n : Nat) : EncGo w1 (w2.drewN n) b sb o1 o2 := ⟨h.only.drewN n, h.new⟩
theorem EncGo.drew {w1 w2 : World} {b sb : Nat} {o1 o2 : Value} (h : EncGo w1 w2 b sb o1 o2) : EncGo w1 w2.drew b sb o1 o2 := ⟨h.only.drew, h.new⟩

set_option maxRecDepth 100000 in
set_option maxHeartbeats 1600000 in
theorem eng_bin (b tb sb : Nat) (ov : Value) (e : Enc) (c x : Int) (w : World) (he : EncIs w b tb sb ov e) (hg : e.Good) (hn : e.cost < 700000000) :
    Calls Tryd.prog 18 #[.pointer (some ⟨b, 0, none⟩), .int .i64 c, .int .i64 x] w fun r w' => r = .returned (.int .i64 (codeOf (e.canBin c x))) ∧ ∃ ov', EncIs w' b tb sb ov' (e.bin c x) ∧ EncGo w w' b sb ov ov' := by
  have hmay := eng_may b tb sb ov e x w he
  by_cases hm : e.may x = true
  · rw [hm] at hmay
    by_cases hc : 0 ≤ c ∧ c < e.st.length
    · have hcan : e.canBin c x = true := by unfold Enc.canBin; rw [hm]; simpa using hc
      have hbin : e.bin c x = Enc.norm 8 (e.narrow c.toNat x) := by unfold Enc.bin; rw [if_pos hcan]
      rw [hcan, hbin]
      obtain ⟨hc0, hc1⟩ := hc
      obtain ⟨i, rfl⟩ := Int.eq_ofNat_of_zero_le hc0
      rw [Int.toNat_natCast]
      have hx := (e.may_bit x hm).1
      have hnar := e.ok_narrow i x hg.ok hg.wide
      have hs := hg.ok.st i
      have hsp := state_parts (e.st.getD i 0) hs.1 hs.2
      obtain ⟨k, r, hkr, hk, hr⟩ := hsp
      have hw0 := hg.wide
      have hw1 := hg.ok.wid1
      have hlo0 := hg.ok.low
      have hlo1 := hg.ok.top
      obtain ⟨q, hq, hq4⟩ : ∃ q : Nat, e.wid / 64 % 4 = q ∧ q < 4 := ⟨(e.wid / 64 % 4).toNat, by omega, by omega⟩
      obtain ⟨less, hless⟩ : ∃ l, l = widthL.getD (k * 4 + q) 0 := ⟨_, rfl⟩
      have hwo : widthOf (e.st.getD i 0) (e.wid / 64 % 4) = less := by rw [hless, hq, hkr]; unfold widthOf; congr 1; omega
      have hlr := widthL_range (k * 4 + q) (by omega)
      rw [← hless] at hlr
      have hcl : i < e.st.length := by omega
      have c9 := he.state i hcl
      have ct := tab_w he.tab (k * 4 + q) (by omega)
      rw [← hless, ← Nat.add_assoc] at ct
      obtain ⟨c0, c1, c2, c3, -, -, -, -, -⟩ := he.cellsAt
      have z2 := free_of he.cells 2
      have z3 := free_of he.cells 3
      have zs := free_of he.sts i
      rw [hkr] at c9
      obtain ⟨L, hL⟩ : ∃ L, L = e.st.length := ⟨_, rfl⟩
      obtain ⟨lo, hlo⟩ : ∃ l, l = e.low := ⟨_, rfl⟩
      obtain ⟨wi, hwi⟩ : ∃ l, l = e.wid := ⟨_, rfl⟩
      rw [← hL] at c1 hcl hc1
      rw [← hlo] at c2 hlo0 hlo1
      rw [← hwi] at c3 hw0 hw1 hlo1 hq
      have hd1 : Int.tdiv (2 * (k : Int) + r) 2 = k := by rw [Int.tdiv_eq_ediv_of_nonneg (by omega)]; omega
      have hd2 : Int.tmod (2 * (k : Int) + r) 2 = r := by rw [Int.tmod_eq_emod_of_nonneg (by omega)]; omega
      have hd3 : Int.tmod (Int.tdiv wi 64) 4 = q := by rw [Int.tdiv_eq_ediv_of_nonneg (by omega), Int.tmod_eq_emod_of_nonneg (by omega)]; exact hq
      have hsb : sb ≠ b := block_type he.sts he.cells (by decide)
      have htb : tb ≠ b := block_type he.tab he.cells (by decide)
      have hts : tb ≠ sb := block_type he.tab he.sts (by decide)
      obtain ⟨hlr0, hlr1⟩ := hlr
      have He := Lib.hid he
      have Hnar := Lib.hid hnar
      have Hn := Lib.hid hn
      have HL := Lib.hid hL
      have Hlo := Lib.hid hlo
      have Hwi := Lib.hid hwi
      have Hkr := Lib.hid hkr
      have Hwo := Lib.hid hwo
      have Hhs := Lib.hid hs
      have Hmay := Lib.hid hmay
      clear he hnar hn hL hlo hwi hkr hwo hs hless hbin hcan hm hg hmay
      go_enter Tryd.func18, Tryd.ntmps18
      go_wp2_with fail
      refine Hmay.out.mono ?_
      rintro r0 w0 ⟨rfl, rfl⟩
      rw [show codeOf true = 0 from rfl]
      by_cases hxr : x = (r : Int)
      · have hb1 : (x == (r : Int)) = true := by simp [hxr]
        go_wp2
        go_quiet (fail)
        go_wp2
        have h1 : EncIs ((w.drewN nq).setCell ⟨b, 3, none⟩ (.int .i64 (wi - less))) b tb sb ov { e with wid := e.wid - less } := (He.out.drewN nq).put 3 _ _ rfl rfl (by rw [Hwi.out]; rfl)
        have h2 : EncGo w ((w.drewN nq).setCell ⟨b, 3, none⟩ (.int .i64 (wi - less))) b sb ov ov := ((EncGo.refl _ _ _ _).drewN nq).set _ _
        generalize (w.drewN nq).setCell ⟨b, 3, none⟩ (.int .i64 (wi - less)) = wq at *
        have htq := h1.tab
        obtain ⟨e0, e1, -, -, -, -, -, -, -⟩ := h1.cellsAt
        have e9 := h1.state i (by rw [← HL.out]; exact hcl)
        have ez := free_of h1.sts i
        dsimp only at e9 e1
        rw [Hkr.out] at e9
        rw [← HL.out] at e1
        have H1 := Lib.hid h1
        have H2 := Lib.hid h2
        clear h1 h2 c0 c1 c2 c3 c9 ct z2 z3 zs
        go_region_held3 (fun w' => w'.cell? ⟨b, 0, none⟩ = some (.pointer (some ⟨tb, 0, none⟩)) ∧ w'.cell? ⟨b, 1, none⟩ = some (.slice (some ⟨sb, 0, none⟩) L L)) (first | exact ⟨e0, e1⟩ | go_keep | assumption)
          (first | (go_at_call 47; refine (eng_next tb (2 * (k : Int) + r) true wq.drew htq (by omega) (by omega)).mono ?_; rintro r2 w2 ⟨rfl, rfl⟩))
        have h3 : EncIs (wq.setCell ⟨sb, i, none⟩ (.int .i64 (nextOf (2 * (k : Int) + r) true))).drew b tb sb ov (e.narrow i x) := by
          rw [e.narrow_likely i x (2 * (k : Int) + r) less Hkr.out Hwo.out (by omega)]
          exact (H1.out.setState i _).drew
        have h4 : EncGo w (wq.setCell ⟨sb, i, none⟩ (.int .i64 (nextOf (2 * (k : Int) + r) true))).drew b sb ov ov := (H2.out.setS _ _).drew
        generalize (wq.setCell ⟨sb, i, none⟩ (.int .i64 (nextOf (2 * (k : Int) + r) true))).drew = wn at *
        have H3 := Lib.hid h3
        have H4 := Lib.hid h4
        clear h3 h4 e0 e1 e9 ez htq H1 H2
        subst hxr
        go_wp2_with fail
        refine (eng_renorm b tb sb ov _ wn H3.out Hnar.out.1 (by rw [Hnar.out.2.1]; have := Hn.out; omega) Hnar.out.2.2).mono ?_
        rintro r3 w3 ⟨rfl, ov3, g1, g2⟩
        have H5 := Lib.hid g1
        have H6 := Lib.hid (H4.out.trans (g2.go sb))
        clear g1 g2
        go_wp2
        go_ret
        exact ⟨rfl, ov3, H5.out, H6.out⟩
      · have hb1 : (x == (r : Int)) = false := by simp [hxr]
        go_wp2
        go_quiet (fail)
        go_wp2
        go_region
        go_wp2
        have h1 : EncIs (((((w.drewN nq).setCell ⟨b, 3, none⟩ (.int .i64 (wi - less))).setCell ⟨b, 2, none⟩ (.int .i64 (lo + (wi - less)))).setCell ⟨b, 3, none⟩ (.int .i64 less)).drew) b tb sb ov { e with low := e.low + (e.wid - less), wid := less } := by
          have g1 : EncIs ((w.drewN nq).setCell ⟨b, 3, none⟩ (.int .i64 (wi - less))) b tb sb ov { e with wid := e.wid - less } := (He.out.drewN nq).put 3 _ _ rfl rfl (by rw [Hwi.out]; rfl)
          have g2 : EncIs (((w.drewN nq).setCell ⟨b, 3, none⟩ (.int .i64 (wi - less))).setCell ⟨b, 2, none⟩ (.int .i64 (lo + (wi - less)))) b tb sb ov { e with low := e.low + (e.wid - less), wid := e.wid - less } := g1.put 2 _ _ rfl rfl (by rw [Hwi.out, Hlo.out]; rfl)
          exact (g2.put 3 (.int .i64 less) { e with low := e.low + (e.wid - less), wid := less } rfl rfl rfl).drew
        have h2 : EncGo w (((((w.drewN nq).setCell ⟨b, 3, none⟩ (.int .i64 (wi - less))).setCell ⟨b, 2, none⟩ (.int .i64 (lo + (wi - less)))).setCell ⟨b, 3, none⟩ (.int .i64 less)).drew) b sb ov ov :=
          (((((EncGo.refl _ _ _ _).drewN nq).set _ _).set _ _).set _ _).drew
        generalize (((((w.drewN nq).setCell ⟨b, 3, none⟩ (.int .i64 (wi - less))).setCell ⟨b, 2, none⟩ (.int .i64 (lo + (wi - less)))).setCell ⟨b, 3, none⟩ (.int .i64 less)).drew) = wq at *
        have htq := h1.tab
        obtain ⟨e0, e1, -, -, -, -, -, -, -⟩ := h1.cellsAt
        have e9 := h1.state i (by show i < e.st.length; rw [← HL.out]; exact hcl)
        have ez := free_of h1.sts i
        dsimp only at e9 e1
        rw [Hkr.out] at e9
        rw [← HL.out] at e1
        have H1 := Lib.hid h1
        have H2 := Lib.hid h2
        clear h1 h2 c0 c1 c2 c3 c9 ct z2 z3 zs
        go_region_held3 (fun w' => w'.cell? ⟨b, 0, none⟩ = some (.pointer (some ⟨tb, 0, none⟩)) ∧ w'.cell? ⟨b, 1, none⟩ = some (.slice (some ⟨sb, 0, none⟩) L L)) (first | exact ⟨e0, e1⟩ | go_keep | assumption)
          (first | (go_at_call 47; refine (eng_next tb (2 * (k : Int) + r) false wq.drew htq (by omega) (by omega)).mono ?_; rintro r2 w2 ⟨rfl, rfl⟩))
        have h3 : EncIs (wq.setCell ⟨sb, i, none⟩ (.int .i64 (nextOf (2 * (k : Int) + r) false))).drew b tb sb ov (e.narrow i x) := by
          rw [e.narrow_other i x (2 * (k : Int) + r) less Hkr.out Hwo.out (by omega)]
          exact (H1.out.setState i _).drew
        have h4 : EncGo w (wq.setCell ⟨sb, i, none⟩ (.int .i64 (nextOf (2 * (k : Int) + r) false))).drew b sb ov ov := (H2.out.setS _ _).drew
        generalize (wq.setCell ⟨sb, i, none⟩ (.int .i64 (nextOf (2 * (k : Int) + r) false))).drew = wn at *
        have H3 := Lib.hid h3
        have H4 := Lib.hid h4
        clear h3 h4 e0 e1 e9 ez htq H1 H2
        go_wp2_with fail
        refine (eng_renorm b tb sb ov _ wn H3.out Hnar.out.1 (by rw [Hnar.out.2.1]; have := Hn.out; omega) Hnar.out.2.2).mono ?_
        rintro r3 w3 ⟨rfl, ov3, g1, g2⟩
        have H5 := Lib.hid g1
        have H6 := Lib.hid (H4.out.trans (g2.go sb))
        clear g1 g2
        go_wp2
        go_ret
        exact ⟨rfl, ov3, H5.out, H6.out⟩
    · have hcan : e.canBin c x = false := by unfold Enc.canBin; rw [hm]; simpa using fun h => Int.not_lt.1 fun h2 => hc ⟨h, h2⟩
      have hbin : e.bin c x = e := by unfold Enc.bin; rw [hcan]; rfl
      rw [hcan, hbin]
      obtain ⟨-, c1, -, -, -, -, -, -, -⟩ := he.cellsAt
      obtain ⟨L, hL⟩ : ∃ L, L = e.st.length := ⟨_, rfl⟩
      rw [← hL] at c1 hc
      have He := Lib.hid he
      have Hmay := Lib.hid hmay
      clear he hcan hbin hL hmay hn hg hm
      go_enter Tryd.func18, Tryd.ntmps18
      go_wp2_with fail
      refine Hmay.out.mono ?_
      rintro r0 w0 ⟨rfl, rfl⟩
      rw [show codeOf true = 0 from rfl]
      by_cases h0 : c < 0
      · go_wp2 <;> go_ret <;> exact ⟨rfl, ov, He.out, EncGo.refl _ _ _ _⟩
      · have h1 : (L : Int) ≤ c := by omega
        go_wp2 <;> go_ret <;> exact ⟨rfl, ov, He.out, EncGo.refl _ _ _ _⟩
  · have hcan : e.canBin c x = false := by unfold Enc.canBin; simp [hm]
    have hbin : e.bin c x = e := by unfold Enc.bin; rw [hcan]; rfl
    rw [hcan, hbin]
    rw [show e.may x = false by simpa using hm] at hmay
    have He := Lib.hid he
    have Hmay := Lib.hid hmay
    clear he hcan hbin hmay hn hg hm
    go_enter Tryd.func18, Tryd.ntmps18
    go_wp2_with fail
    refine Hmay.out.mono ?_
    rintro r0 w0 ⟨rfl, rfl⟩
    rw [show codeOf false = 501 from rfl]
    go_wp2
    go_ret
    exact ⟨rfl, ov, He.out, EncGo.refl _ _ _ _⟩
end Go.Proofs.YtibojidpifgblaaDoor
