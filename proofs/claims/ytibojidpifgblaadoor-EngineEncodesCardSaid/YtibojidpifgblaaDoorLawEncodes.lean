/-
  EngineEncodes: bins that are written by any calls are the document's. (under way: not built)
-/
import Derived.Test.YtibojidpifgblaaDoorLawByp
import Derived.Test.YtibojidpifgblaaDoorDoor3
import Derived.Test.YtibojidpifgblaaDoorHold2
import Derived.Test.YtibojidpifgblaaDoorLend
namespace Go.Proofs.YtibojidpifgblaaDoor
open Go.RowKit

/-- One act as the law reads it, whatever its numbers. -/
def Enc.anyAct (e : Enc) (a : List Int) : Enc :=
  if a.getD 0 0 < 6 then e.bin (a.getD 1 0) (a.getD 2 0) else if a.getD 0 0 < 8 then e.bypass (a.getD 2 0) else e.term (if a.getD 0 0 = 8 then 0 else a.getD 2 0)
def Enc.anyRun (e : Enc) (xs : List (List Int)) : Nat → Enc
  | 0 => e
  | k + 1 => (e.anyRun xs k).anyAct (xs.getD k [])
theorem Enc.any_good (e : Enc) (xs : List (List Int)) (h : e.Good) (k : Nat) : (e.anyRun xs k).Good ∧ (e.anyRun xs k).cost ≤ e.cost + 11 * k := by
  induction k with
  | zero => exact ⟨h, by show e.cost ≤ _; omega⟩
  | succ k ih =>
    obtain ⟨g, c⟩ := ih
    unfold Enc.anyRun Enc.anyAct
    split
    · have := (e.anyRun xs k).good_bin ((xs.getD k []).getD 1 0) ((xs.getD k []).getD 2 0) g
      exact ⟨this.1, by omega⟩
    · split
      · have := (e.anyRun xs k).good_bypass ((xs.getD k []).getD 2 0) g
        exact ⟨this.1, by omega⟩
      · have := (e.anyRun xs k).good_term (if (xs.getD k []).getD 0 0 = 8 then 0 else (xs.getD k []).getD 2 0) g
        exact ⟨this.1, by omega⟩

theorem Enc.shift_st (e : Enc) : e.shift.st = e.st := by
  unfold Enc.shift
  dsimp only
  split
  · rfl
  · split <;> rfl
theorem Enc.norm_st (k : Nat) : ∀ e : Enc, (Enc.norm k e).st = e.st := by
  induction k with
  | zero => intro e; rfl
  | succ k ih =>
    intro e
    unfold Enc.norm
    split
    · rw [ih, Enc.shift_st]
    · rfl
theorem Enc.bin_len (e : Enc) (c b : Int) : (e.bin c b).st.length = e.st.length := by
  unfold Enc.bin
  split
  · rw [Enc.norm_st]
    unfold Enc.narrow
    dsimp only
    split <;> simp
  · rfl
theorem Enc.bypass_len (e : Enc) (b : Int) : (e.bypass b).st.length = e.st.length := by
  unfold Enc.bypass
  split
  · unfold Enc.half
    dsimp only
    split
    · rfl
    · split <;> rfl
  · rfl
theorem Enc.term_len (e : Enc) (b : Int) : (e.term b).st.length = e.st.length := by
  have hl : (e.last b).st = e.st := by unfold Enc.last; split <;> rfl
  unfold Enc.term
  split
  · split
    · show (Enc.norm 8 (e.last b)).st.length = _
      rw [Enc.norm_st, hl]
    · rw [Enc.norm_st, hl]
  · rfl
/-- The document's states as a slice. -/
theorem ref_states {w0 w : World} {b tb sb : Nat} {ov : Value} {e : Enc} {L : Nat} (h : RefAt w0 w b tb sb ov e) (hL : L = e.st.length) : IntSlice w (.slice (some ⟨sb, 0, none⟩) L L) e.st := by
  subst hL
  exact IntSlice.of_block h.is.sts
theorem same_self (v u : Value) (xs : List Int) (w : World) (hv : IntSlice w v xs) (hu : IntSlice w u xs) (hl : xs.length ≤ 9000000000000000000) :
    Calls Tryd.prog 30 #[v, u] w fun e w' => e = .returned (.bool true) ∧ Only [] w w' := by
  have h := same_ints v u xs xs w hv hu hl hl
  rw [decide_eq_true (show xs = xs from rfl)] at h
  exact h
theorem Enc.any_len (e : Enc) (xs : List (List Int)) (k : Nat) : (e.anyRun xs k).st.length = e.st.length := by
  induction k with
  | zero => rfl
  | succ k ih =>
    rw [← ih]
    show ((e.anyRun xs k).anyAct _).st.length = _
    unfold Enc.anyAct
    split
    · exact Enc.bin_len _ _ _
    · split
      · exact Enc.bypass_len _ _
      · exact Enc.term_len _ _

set_option maxRecDepth 100000 in
set_option maxHeartbeats 16000000 in
theorem law_encodes (v u : Value) (xs : List Int) (ys : List (List Int)) (w : World) (ha : Asc w) (hv : IntSlice w v xs) (hz : ∀ c, v = .slice none xs.length c → c = 0) (hu : RowSlice w 3 u ys) (hl : xs.length ≤ 17592186043904) (hl2 : ys.length ≤ 9223372036854775807) :
    Calls Tryd.prog 5 #[v, u] w fun e w' => e = .returned (.bool true) ∧ Only [] w w' := by
  have Ha := Lib.hid ha
  have Hv := Lib.hid hv
  have Hz := Lib.hid hz
  obtain ⟨bo, cap2, rfl, hd⟩ := hu
  have Hd := Lib.hid hd
  have Hl := Lib.hid hl
  clear hd ha hv hz hl
  go_enter Tryd.func5, Tryd.ntmps5
  go_wp2_with fail
  refine (lend_ints v xs w Hv.out Hz.out (by have := Hl.out; omega)).mono ?_
  rintro r w1 ⟨g, cap, rfl, hg, hcap, hown, ho1⟩
  have hu1 : IntSlice w1 (.slice (some ⟨g, 0, none⟩) xs.length cap) xs := by
    refine ⟨_, _, rfl, .inr ⟨g, 0, rfl, fun i hi => ?_⟩⟩
    rw [Nat.zero_add, hown.cellAt i (by omega), List.map_append, List.getElem?_append_left (by simpa using hi)]
    simp [List.getD, List.getElem?_eq_getElem hi]
  have Hown := Lib.hid hown
  have Hu1 := Lib.hid hu1
  have Ho1 := Lib.hid ho1
  have Hcap := Lib.hid hcap
  have hglt : g < w1.heap.size := by
    obtain ⟨cur, hc⟩ := ownsRow_block hown (g := g) rfl
    exact lt_of_block hc
  clear hown hu1 ho1 hcap hg
  go_wp2_with fail
  refine (enc_new (Ha.out.only Ho1.out (by simp)) (Only.refl _ w1) _ xs Hu1.out (by have := Hl.out; omega)).mono ?_
  rintro r w2 ⟨b1, t1, s1, rfl, h2, h2o, -, -, -⟩
  have H2 := Lib.hid h2
  have H2o := Lib.hid h2o
  clear h2 h2o
  go_wp2_with fail
  refine (ref_new v xs w2 ((Hv.out.only Ho1.out (by simp)).only H2o.out (by simp)) (by have := Hl.out; omega)).mono ?_
  rintro r w3 ⟨b2, t2, s2, rfl, h3, h3o, k1, k2, k3⟩
  have HP := Lib.hid (pair_new H2.out h3 h3o k1 k2 k3)
  clear h3 h3o k1 k2 k3 H2 H2o
  go_wp2
  obtain ⟨N, hN⟩ : ∃ n, n = min 300 ys.length := ⟨_, rfl⟩
  have hNa : N ≤ 300 := by omega
  have hNb : N ≤ ys.length := by omega
  have HN := Lib.hid hN
  clear hN
  go_loopw [8] (fun i wr => ∃ (j : Nat) (o1 o2 : Value), j ≤ N ∧ i = .int .i64 j ∧ Pair w1 wr b1 t1 s1 b2 t2 s2 o1 o2 ((Enc.new xs).anyRun ys j) ((Enc.new xs).anyRun ys j)) (fun i _ => N - (intOf i).toNat)
  case atStart => exact ⟨0, _, _, Nat.zero_le _, rfl, HP.out⟩
  case round =>
    obtain ⟨j, o1, o2, hj, rfl, kp⟩ := hrel
    obtain ⟨E1, hE1⟩ : ∃ E, E = (Enc.new xs).anyRun ys j := ⟨_, rfl⟩
    rw [← hE1] at kp
    have Hc1 : Hid (E1.cost ≤ 6000) := Lib.hid (by rw [hE1]; have := ((Enc.new xs).any_good ys (Enc.good_new xs) j).2; have h0 : (Enc.new xs).cost = 0 := rfl; omega)
    have HE1 := Lib.hid hE1
    have KP0 := Lib.hid kp
    clear hE1 kp
    by_cases hlq : j < N
    · rcases Hd.out with hx | ⟨gy, offy, rfl, hcell⟩
      · rw [hx] at hNb; simp at hNb; omega
      have hq1 : j < 300 := by omega
      have hq2 : j < ys.length := by omega
      have c0 := KP0.out.a.on.cell (Ho1.out.cell (hcell j 0 hq2 (by omega)) (by simp)) (by simp)
      have c1 := KP0.out.a.on.cell (Ho1.out.cell (hcell j 1 hq2 (by omega)) (by simp)) (by simp)
      have c2 := KP0.out.a.on.cell (Ho1.out.cell (hcell j 2 hq2 (by omega)) (by simp)) (by simp)
      obtain ⟨k, hk⟩ : ∃ k, k = (ys.getD j []).getD 0 0 := ⟨_, rfl⟩
      obtain ⟨c, hcc⟩ : ∃ k, k = (ys.getD j []).getD 1 0 := ⟨_, rfl⟩
      obtain ⟨x, hx⟩ : ∃ k, k = (ys.getD j []).getD 2 0 := ⟨_, rfl⟩
      have hdeed : Enc.anyAct E1 (ys.getD j []) = if k < 6 then E1.bin c x else if k < 8 then E1.bypass x else E1.term (if k = 8 then 0 else x) := by unfold Enc.anyAct; rw [← hk, ← hcc, ← hx]
      have Hdeed := Lib.hid hdeed
      rw [← hk, Nat.add_zero] at c0
      rw [← hcc, ← Nat.add_assoc] at c1
      rw [← hx, ← Nat.add_assoc] at c2
      clear hcell hk hcc hx hdeed
      have ha1 : Only [] wr (wr.alloc (.cells #[.int .i64 k, .int .i64 c, .int .i64 x] 40)) := (Only.refl _ _).alloc _
      have KP := Lib.hid (KP0.out.only ha1)
      have hlow := KP0.out.a.low
      have hov1 : ∀ g, o1.ownBlock = some g → g ≠ wr.heap.size := fun g hg => by have := hlow.2.2.2 g hg; omega
      have hnb : wr.heap.size ∉ b1 :: s1 :: o1.ownBlock.toList := by
        simp only [List.mem_cons, Option.mem_toList, not_or]
        exact ⟨by omega, by omega, fun h => hov1 _ h rfl⟩
      have a0 : (wr.alloc (.cells #[.int .i64 k, .int .i64 c, .int .i64 x] 40)).cell? ⟨wr.heap.size, 0, none⟩ = some (.int .i64 k) := by rw [cells_of (heap_alloc_at _ _)]; rfl
      have a1 : (wr.alloc (.cells #[.int .i64 k, .int .i64 c, .int .i64 x] 40)).cell? ⟨wr.heap.size, 1, none⟩ = some (.int .i64 c) := by rw [cells_of (heap_alloc_at _ _)]; rfl
      have a2 : (wr.alloc (.cells #[.int .i64 k, .int .i64 c, .int .i64 x] 40)).cell? ⟨wr.heap.size, 2, none⟩ = some (.int .i64 x) := by rw [cells_of (heap_alloc_at _ _)]; rfl
      have Ha0 := Lib.hid a0
      clear ha1 hlow hov1 KP0
      by_cases hk6 : k < 6
      · skip
        have he2 : Enc.anyAct E1 (ys.getD j []) = E1.bin c x := by rw [Hdeed.out, if_pos hk6]
        obtain ⟨E2, hE2⟩ : ∃ E, E = E1.bin c x := ⟨_, rfl⟩
        rw [← hE2] at he2
        have HE2 : Hid (E2 = (Enc.new xs).anyRun ys (j + 1)) := Lib.hid (by show _ = ((Enc.new xs).anyRun ys j).anyAct _; rw [← HE1.out]; exact he2.symm)
        go_wp2_with fail
        refine (KP.out.a.bin c x (by have := Hc1.out; omega)).mono ?_
        rintro r w4 ⟨rfl, ov1, g1, g2⟩
        rw [← hE2] at g1
        have K4 := Lib.hid (KP.out.enc g1 g2)
        have d0 := g2.only.cell a0 hnb
        have d1 := g2.only.cell a1 hnb
        have d2 := g2.only.cell a2 hnb
        clear g1 g2
        go_wp2_with (first | (go_at_call 21; refine (num_any _ _).mono ?_; rintro e w' ⟨rfl, rfl⟩))
        refine (K4.out.r.bin c x (by have := Hc1.out; omega)).mono ?_
        rintro r w5 ⟨rfl, ov2, g1, g2⟩
        rw [← hE2] at g1
        have kP := K4.out.ref g1 g2
        have Hc2 : Hid (E2.cost ≤ 6000) := Lib.hid (by rw [HE2.out]; have := ((Enc.new xs).any_good ys (Enc.good_new xs) (j + 1)).2; have h0 : (Enc.new xs).cost = 0 := rfl; omega)
        clear g1 g2 he2 hE2

        have HB := Lib.hid kP
        clear kP
        by_cases hq16 : (j : Int) % 16 = 0
        · have hq16b : ((j : Int) % 16 == 0) = true := by simp [hq16]
          clear hq16
          go_wp2_with (first | (go_at_call 21; refine (num_any _ _).mono ?_; rintro e w' ⟨rfl, rfl⟩))
          refine (HB.out.a.bytes).mono ?_
          rintro r w6 ⟨rfl, rfl⟩
          go_wp2_with fail
          refine (HB.out.r.bytes (by have := Hc2.out; omega)).mono ?_
          rintro r w6 ⟨rfl, -, g4⟩
          have HB2 := Lib.hid (HB.out.only g4)
          obtain ⟨S, hS⟩ : ∃ S, S = strOfNums (packed E2.bits) := ⟨_, rfl⟩
          rw [← hS]
          clear g4 hS
          have hss : (S.toList == S.toList) = true := text_eq rfl
          go_wp2
          go_roundw
          case rel => exact ⟨j + 1, _, _, by omega, by go_num, by rw [HE2.out] at HB2; exact HB2.out⟩
          case measure => simp [intOf] <;> omega
        · have hq16b : ((j : Int) % 16 == 0) = false := by simp [hq16]
          clear hq16
          go_wp2_with (first | (go_at_call 21; refine (num_any _ _).mono ?_; rintro e w' ⟨rfl, rfl⟩))
          go_roundw
          case rel => exact ⟨j + 1, _, _, by omega, by go_num, by rw [HE2.out] at HB; exact HB.out⟩
          case measure => simp [intOf] <;> omega

      · by_cases hk8 : k < 8
        · skip
          have he2 : Enc.anyAct E1 (ys.getD j []) = E1.bypass x := by rw [Hdeed.out, if_neg hk6, if_pos hk8]
          obtain ⟨E2, hE2⟩ : ∃ E, E = E1.bypass x := ⟨_, rfl⟩
          rw [← hE2] at he2
          have HE2 : Hid (E2 = (Enc.new xs).anyRun ys (j + 1)) := Lib.hid (by show _ = ((Enc.new xs).anyRun ys j).anyAct _; rw [← HE1.out]; exact he2.symm)
          go_wp2_with fail
          refine (KP.out.a.bypass x (by have := Hc1.out; omega)).mono ?_
          rintro r w4 ⟨rfl, ov1, g1, g2⟩
          rw [← hE2] at g1
          have K4 := Lib.hid (KP.out.enc g1 g2)
          have d0 := g2.only.cell a0 hnb
          have d1 := g2.only.cell a1 hnb
          have d2 := g2.only.cell a2 hnb
          clear g1 g2
          go_wp2_with (first | (go_at_call 21; refine (num_any _ _).mono ?_; rintro e w' ⟨rfl, rfl⟩))
          refine (K4.out.r.bypass x (by have := Hc1.out; omega)).mono ?_
          rintro r w5 ⟨rfl, ov2, g1, g2⟩
          rw [← hE2] at g1
          have kP := K4.out.ref g1 g2
          have Hc2 : Hid (E2.cost ≤ 6000) := Lib.hid (by rw [HE2.out]; have := ((Enc.new xs).any_good ys (Enc.good_new xs) (j + 1)).2; have h0 : (Enc.new xs).cost = 0 := rfl; omega)
          clear g1 g2 he2 hE2

          have HB := Lib.hid kP
          clear kP
          by_cases hq16 : (j : Int) % 16 = 0
          · have hq16b : ((j : Int) % 16 == 0) = true := by simp [hq16]
            clear hq16
            go_wp2_with (first | (go_at_call 21; refine (num_any _ _).mono ?_; rintro e w' ⟨rfl, rfl⟩))
            refine (HB.out.a.bytes).mono ?_
            rintro r w6 ⟨rfl, rfl⟩
            go_wp2_with fail
            refine (HB.out.r.bytes (by have := Hc2.out; omega)).mono ?_
            rintro r w6 ⟨rfl, -, g4⟩
            have HB2 := Lib.hid (HB.out.only g4)
            obtain ⟨S, hS⟩ : ∃ S, S = strOfNums (packed E2.bits) := ⟨_, rfl⟩
            rw [← hS]
            clear g4 hS
            have hss : (S.toList == S.toList) = true := text_eq rfl
            go_wp2
            go_roundw
            case rel => exact ⟨j + 1, _, _, by omega, by go_num, by rw [HE2.out] at HB2; exact HB2.out⟩
            case measure => simp [intOf] <;> omega
          · have hq16b : ((j : Int) % 16 == 0) = false := by simp [hq16]
            clear hq16
            go_wp2_with (first | (go_at_call 21; refine (num_any _ _).mono ?_; rintro e w' ⟨rfl, rfl⟩))
            go_roundw
            case rel => exact ⟨j + 1, _, _, by omega, by go_num, by rw [HE2.out] at HB; exact HB.out⟩
            case measure => simp [intOf] <;> omega

        · by_cases hk9 : k = 8
          · subst hk9
            have he2 : Enc.anyAct E1 (ys.getD j []) = E1.term 0 := by rw [Hdeed.out, if_neg hk6, if_neg hk8, if_pos rfl]
            obtain ⟨E2, hE2⟩ : ∃ E, E = E1.term 0 := ⟨_, rfl⟩
            rw [← hE2] at he2
            have HE2 : Hid (E2 = (Enc.new xs).anyRun ys (j + 1)) := Lib.hid (by show _ = ((Enc.new xs).anyRun ys j).anyAct _; rw [← HE1.out]; exact he2.symm)
            go_wp2_with fail
            refine (KP.out.a.term 0 (by have := Hc1.out; omega)).mono ?_
            rintro r w4 ⟨rfl, ov1, g1, g2⟩
            rw [← hE2] at g1
            have K4 := Lib.hid (KP.out.enc g1 g2)
            have d0 := g2.only.cell a0 hnb
            have d1 := g2.only.cell a1 hnb
            have d2 := g2.only.cell a2 hnb
            clear g1 g2
            go_wp2_with (first | (go_at_call 21; refine (num_any _ _).mono ?_; rintro e w' ⟨rfl, rfl⟩))
            refine (K4.out.r.term 0 (by have := Hc1.out; omega)).mono ?_
            rintro r w5 ⟨rfl, ov2, g1, g2⟩
            rw [← hE2] at g1
            have kP := K4.out.ref g1 g2
            have Hc2 : Hid (E2.cost ≤ 6000) := Lib.hid (by rw [HE2.out]; have := ((Enc.new xs).any_good ys (Enc.good_new xs) (j + 1)).2; have h0 : (Enc.new xs).cost = 0 := rfl; omega)
            clear g1 g2 he2 hE2

            have HB := Lib.hid kP
            clear kP
            by_cases hq16 : (j : Int) % 16 = 0
            · have hq16b : ((j : Int) % 16 == 0) = true := by simp [hq16]
              clear hq16
              go_wp2_with (first | (go_at_call 21; refine (num_any _ _).mono ?_; rintro e w' ⟨rfl, rfl⟩))
              refine (HB.out.a.bytes).mono ?_
              rintro r w6 ⟨rfl, rfl⟩
              go_wp2_with fail
              refine (HB.out.r.bytes (by have := Hc2.out; omega)).mono ?_
              rintro r w6 ⟨rfl, -, g4⟩
              have HB2 := Lib.hid (HB.out.only g4)
              obtain ⟨S, hS⟩ : ∃ S, S = strOfNums (packed E2.bits) := ⟨_, rfl⟩
              rw [← hS]
              clear g4 hS
              have hss : (S.toList == S.toList) = true := text_eq rfl
              go_wp2
              go_roundw
              case rel => exact ⟨j + 1, _, _, by omega, by go_num, by rw [HE2.out] at HB2; exact HB2.out⟩
              case measure => simp [intOf] <;> omega
            · have hq16b : ((j : Int) % 16 == 0) = false := by simp [hq16]
              clear hq16
              go_wp2_with (first | (go_at_call 21; refine (num_any _ _).mono ?_; rintro e w' ⟨rfl, rfl⟩))
              go_roundw
              case rel => exact ⟨j + 1, _, _, by omega, by go_num, by rw [HE2.out] at HB; exact HB.out⟩
              case measure => simp [intOf] <;> omega

          · have hk9b : (k == 8) = false := by simp [hk9]
            have he2 : Enc.anyAct E1 (ys.getD j []) = E1.term x := by rw [Hdeed.out, if_neg hk6, if_neg hk8, if_neg hk9]
            obtain ⟨E2, hE2⟩ : ∃ E, E = E1.term x := ⟨_, rfl⟩
            rw [← hE2] at he2
            have HE2 : Hid (E2 = (Enc.new xs).anyRun ys (j + 1)) := Lib.hid (by show _ = ((Enc.new xs).anyRun ys j).anyAct _; rw [← HE1.out]; exact he2.symm)
            go_wp2_with fail
            refine (KP.out.a.term x (by have := Hc1.out; omega)).mono ?_
            rintro r w4 ⟨rfl, ov1, g1, g2⟩
            rw [← hE2] at g1
            have K4 := Lib.hid (KP.out.enc g1 g2)
            have d0 := g2.only.cell a0 hnb
            have d1 := g2.only.cell a1 hnb
            have d2 := g2.only.cell a2 hnb
            clear g1 g2
            go_wp2_with (first | (go_at_call 21; refine (num_any _ _).mono ?_; rintro e w' ⟨rfl, rfl⟩))
            refine (K4.out.r.term x (by have := Hc1.out; omega)).mono ?_
            rintro r w5 ⟨rfl, ov2, g1, g2⟩
            rw [← hE2] at g1
            have kP := K4.out.ref g1 g2
            have Hc2 : Hid (E2.cost ≤ 6000) := Lib.hid (by rw [HE2.out]; have := ((Enc.new xs).any_good ys (Enc.good_new xs) (j + 1)).2; have h0 : (Enc.new xs).cost = 0 := rfl; omega)
            clear g1 g2 he2 hE2

            have HB := Lib.hid kP
            clear kP
            by_cases hq16 : (j : Int) % 16 = 0
            · have hq16b : ((j : Int) % 16 == 0) = true := by simp [hq16]
              clear hq16
              go_wp2_with (first | (go_at_call 21; refine (num_any _ _).mono ?_; rintro e w' ⟨rfl, rfl⟩))
              refine (HB.out.a.bytes).mono ?_
              rintro r w6 ⟨rfl, rfl⟩
              go_wp2_with fail
              refine (HB.out.r.bytes (by have := Hc2.out; omega)).mono ?_
              rintro r w6 ⟨rfl, -, g4⟩
              have HB2 := Lib.hid (HB.out.only g4)
              obtain ⟨S, hS⟩ : ∃ S, S = strOfNums (packed E2.bits) := ⟨_, rfl⟩
              rw [← hS]
              clear g4 hS
              have hss : (S.toList == S.toList) = true := text_eq rfl
              go_wp2
              go_roundw
              case rel => exact ⟨j + 1, _, _, by omega, by go_num, by rw [HE2.out] at HB2; exact HB2.out⟩
              case measure => simp [intOf] <;> omega
            · have hq16b : ((j : Int) % 16 == 0) = false := by simp [hq16]
              clear hq16
              go_wp2_with (first | (go_at_call 21; refine (num_any _ _).mono ?_; rintro e w' ⟨rfl, rfl⟩))
              go_roundw
              case rel => exact ⟨j + 1, _, _, by omega, by go_num, by rw [HE2.out] at HB; exact HB.out⟩
              case measure => simp [intOf] <;> omega

    · obtain rfl : j = N := by omega
      have hend3 : (ys.length ≤ j) ∨ (j = 300 ∧ j < ys.length) := by have := HN.out; omega
      have hlen : E1.st.length = xs.length := by rw [HE1.out, Enc.any_len]; simp [Enc.new, beginOf]
      obtain ⟨L, hL⟩ : ∃ L, L = E1.st.length := ⟨_, rfl⟩
      have hst0 := KP0.out.a.good.ok.st
      have Hst0 := Lib.hid (show ∀ i, 0 ≤ E1.st.getD i 0 ∧ E1.st.getD i 0 ≤ 1000000 from fun i => by have := hst0 i; omega)
      have hL2 : E1.st.length ≤ 17592186043904 := by have := Hl.out; omega
      have HL2 := Lib.hid hL2
      have HL := Lib.hid hL
      clear hlen hL hst0 hL2
      rcases hend3 with hend3 | ⟨hend3, hend4⟩
      all_goals
        go_wp2_with fail
        refine (KP0.out.a.states (by have := HL2.out; omega)).mono ?_
        rintro r w5 ⟨v1, rfl, g1, -, g3⟩
        have V1 := Lib.hid g1
        have P5 := Lib.hid (KP0.out.only g3)
        have O5 := Lib.hid g3
        have e0 : w5.cell? ⟨b2, 0, none⟩ = some (.slice (some ⟨s2, 0, none⟩) L L) := by rw [cells_of P5.out.r.is.cells, HL.out]; rfl
        clear g1 g3
        go_wp2_with fail
        have hs := same_ints v1 (.slice (some ⟨s2, 0, none⟩) L L) E1.st E1.st w5 (IntSlice.of_owned V1.out) (by have := IntSlice.of_block (cap := L) P5.out.r.is.sts; rw [HL.out]; rw [HL.out] at this; exact this) (by have := HL2.out; omega) (by have := HL2.out; omega)
        refine hs.mono ?_
        clear hs
        rintro r w6 ⟨rfl, g1⟩
        rw [decide_eq_true (show E1.st = E1.st from rfl)]
        have P6 := Lib.hid (P5.out.only g1)
        have V6 := Lib.hid (ownsRow_of_block (w' := w6) V1.out (fun q hq => by obtain ⟨c, hc⟩ := ownsRow_block V1.out hq; exact g1.block q (lt_of_block hc) (by simp)))
        have O6 := Lib.hid (O5.out.trans g1)
        clear g1 e0
        go_wp2_with fail
        have hw6 : Only [] w1 w6 := P6.out.a.on
        refine (kept_ints v xs g cap w.heap.size w6 ((Hv.out.only Ho1.out (by simp)).only hw6 (by simp)) Hcap.out (ownsRow_of_block Hown.out (fun q hq => by simp [Value.ownBlock] at hq; subst hq; exact hw6.block _ hglt (by simp))) (by have := Hl.out; omega)).mono ?_
        rintro r w7 ⟨rfl, g1⟩
        have P7 := Lib.hid (P6.out.only g1)
        have V7 := Lib.hid (ownsRow_of_block (w' := w7) V6.out (fun q hq => by obtain ⟨c, hc⟩ := ownsRow_block V6.out hq; exact g1.block q (lt_of_block hc) (by simp)))
        have O7 := Lib.hid (O6.out.trans g1)
        clear g1 hw6
        go_wp2_with fail
        refine (spoil_own v1 _ E1.st w7 V7.out (by have := HL2.out; omega) Hst0.out).mono ?_
        rintro r w8 ⟨rfl, g1⟩
        have O8 := Lib.hid (O7.out.trans' g1 (fun i hi => by
          right
          simp only [Option.mem_toList] at hi
          rcases V7.out.2 with ⟨rfl, _⟩ | ⟨g', cap', cur', rfl, hb', _⟩
          · simp [Value.ownBlock] at hi
          · simp [Value.ownBlock] at hi; subst hi; exact hb'))
        have P8 := Lib.hid (KP0.out.only O8.out)
        have e0 : w8.cell? ⟨b2, 0, none⟩ = some (.slice (some ⟨s2, 0, none⟩) L L) := by rw [cells_of P8.out.r.is.cells, HL.out]; rfl
        have P8d := Lib.hid P8.out.drew
        clear g1
        go_wp2_with fail
        obtain ⟨S, hS⟩ : ∃ S, S = strOfNums (packed E1.bits) := ⟨_, rfl⟩
        have hS2 : (S.toList == S.toList) = true := text_eq rfl
        have HS := Lib.hid hS
        have HL3 : Hid (E1.st.length ≤ 9000000000000000000) := Lib.hid (by have := HL2.out; omega)
        clear hS
        go_region_held3 (fun w' => w'.cell? ⟨b2, 0, none⟩ = some (.slice (some ⟨s2, 0, none⟩) L L)) (first | exact e0 | go_keep | assumption)
          (first
            | (go_at_call 29; refine (P8d.out.a.states (by have := HL2.out; omega)).mono ?_; rintro r2 w9 ⟨v2, rfl, g1, g2, g3⟩; have V9 := Lib.hid g1; have P9 := Lib.hid (P8d.out.only g3); have e5 : w9.cell? ⟨b2, 0, none⟩ = some (.slice (some ⟨s2, 0, none⟩) L L) := g3.cell (w := w8.drew) e0 (by simp); clear g1 g2 g3)
            | (go_at_call 30; refine (same_self v2 (.slice (some ⟨s2, 0, none⟩) L L) E1.st w9 (IntSlice.of_owned V9.out) (ref_states P9.out.r HL.out) HL3.out).mono ?_; rintro r3 w10 ⟨rfl, ho10⟩; have P10 := Lib.hid (P9.out.only ho10); have e6 : w10.cell? ⟨b2, 0, none⟩ = some (.slice (some ⟨s2, 0, none⟩) L L) := ho10.cell e5 (by simp); clear ho10)
            | (go_at_call 20; refine (P10.out.a.bytes).mono ?_; rintro r4 w11 ⟨rfl, rfl⟩; rw [← HS.out])
            | (go_at_call 28; refine (P10.out.r.bytes (by have := Hc1.out; omega)).mono ?_; rintro r5 w12 ⟨rfl, g1, ho12⟩; rw [← HS.out]; have P12 := Lib.hid (P10.out.only ho12); have e7 : w12.cell? ⟨b2, 0, none⟩ = some (.slice (some ⟨s2, 0, none⟩) L L) := ho12.cell e6 (by simp); clear g1 ho12)
            | (go_at_call 16; refine (awake5 w12 ((Ha.out.only Ho1.out (by simp)).only P12.out.a.on (by simp))).mono ?_; rintro r6 w13 ⟨rfl, ho13⟩; have e8 : w13.cell? ⟨b2, 0, none⟩ = some (.slice (some ⟨s2, 0, none⟩) L L) := ho13.cell e7 (by simp)))
        go_wp2
        go_ret
        exact ⟨rfl, Ho1.out.trans (P12.out.a.on.trans ho13)⟩
end Go.Proofs.YtibojidpifgblaaDoor
