/-
  The walks over package syntax's rules for coefficients, whatever they are: zero, small, mayCoefs. The walks over package syntax's rules for a macroblock, whatever it is: has, mayQp. A macroblock is appended to a row of macroblocks.
-/
import Derived.Test.YtcppbdlmcbjmeaaGreatDoorJ10
namespace Go.Proofs.YtcppbdlmcbjmeaaGreatDoor
open Go.RowKit

/-- A truth is told; nothing but new blocks. -/
def Tells (P : Prop) (w : World) (e : Ending) (w' : World) : Prop := ∃ b, e = .returned (.bool b) ∧ (b = true ↔ P) ∧ Only [] w w'
theorem Tells.yes {P : Prop} {w w' : World} (h : P) (ho : Only [] w w') : Tells P w (.returned (.bool true)) w' := ⟨true, rfl, ⟨fun _ => h, fun _ => rfl⟩, ho⟩
theorem Tells.no {P : Prop} {w w' : World} (h : ¬ P) (ho : Only [] w w') : Tells P w (.returned (.bool false)) w' := ⟨false, rfl, ⟨fun h1 => absurd h1 (by decide), fun h2 => absurd h2 h⟩, ho⟩
theorem Tells.of {P : Prop} {w w' : World} {b : Bool} (h : b = true ↔ P) (ho : Only [] w w') : Tells P w (.returned (.bool b)) w' := ⟨b, rfl, h, ho⟩
set_option maxRecDepth 100000 in
set_option maxHeartbeats 800000 in
theorem my_zero {mb off n cap : Nat} {y : Nat → Int} {w : World} (hc : ∀ i, i < n → w.cell? ⟨mb, off + i, none⟩ = some (.int .i64 (y (off + i)))) (hn : n ≤ 16) :
    Calls Tryz.prog 115 #[.slice (some ⟨mb, off, none⟩) n cap] w fun e w' => Tells (∀ i, i < n → y (off + i) = 0) w e w' := by
  have Hc := Lib.hid hc
  clear hc
  go_enter Tryz.func115, Tryz.ntmps115
  go_wp2
  go_loop [7] (fun q => ∃ k : Nat, k ≤ n ∧ q = .int .i64 k ∧ Hid (∀ i, i < k → y (off + i) = 0)) (fun q => n - (intOf q).toNat)
  case atStart => exact ⟨0, Nat.zero_le _, rfl, Lib.hid (fun i hi => absurd hi (Nat.not_lt_zero i))⟩
  case round =>
    obtain ⟨k, hk, rfl, hz⟩ := hrel
    by_cases hlt : k < n
    · have c1 := Hc.out k hlt
      obtain ⟨x, hx⟩ : ∃ x, x = y (off + k) := ⟨_, rfl⟩
      rw [← hx] at c1
      have Hx := Lib.hid hx
      clear hx
      by_cases h0 : x = 0
      · subst h0
        go_wp2
        go_round
        case rel => exact ⟨k + 1, by omega, by go_num, Lib.hid (fun i hi => by
          by_cases e : i = k
          · rw [e, ← Hx.out]
          · exact hz.out i (by omega))⟩
        case measure => simp [intOf] <;> omega
      · have hb : (x != 0) = true := by simp [h0]
        have hno : ¬ ∀ i, i < n → y (off + i) = 0 := fun h => h0 (by rw [Hx.out]; exact h k hlt)
        have Hno := Lib.hid hno
        clear hno
        go_wp2
        go_ret
        exact Tells.no Hno.out (Only.refl _ _)
    · obtain rfl : k = n := by omega
      go_wp2
      go_ret
      exact Tells.yes hz.out (Only.refl _ _)
set_option maxRecDepth 100000 in
set_option maxHeartbeats 800000 in
theorem my_small {mb off n cap : Nat} {y : Nat → Int} {w : World} (hc : ∀ i, i < n → w.cell? ⟨mb, off + i, none⟩ = some (.int .i64 (y (off + i)))) (hn : n ≤ 16) :
    Calls Tryz.prog 116 #[.slice (some ⟨mb, off, none⟩) n cap] w fun e w' => Tells (∀ i, i < n → -32767 ≤ y (off + i) ∧ y (off + i) ≤ 32767) w e w' := by
  have Hc := Lib.hid hc
  clear hc
  go_enter Tryz.func116, Tryz.ntmps116
  go_wp2
  go_loop [7] (fun q => ∃ k : Nat, k ≤ n ∧ q = .int .i64 k ∧ Hid (∀ i, i < k → -32767 ≤ y (off + i) ∧ y (off + i) ≤ 32767)) (fun q => n - (intOf q).toNat)
  case atStart => exact ⟨0, Nat.zero_le _, rfl, Lib.hid (fun i hi => absurd hi (Nat.not_lt_zero i))⟩
  case round =>
    obtain ⟨k, hk, rfl, hz⟩ := hrel
    by_cases hlt : k < n
    · have c1 := Hc.out k hlt
      obtain ⟨x, hx⟩ : ∃ x, x = y (off + k) := ⟨_, rfl⟩
      rw [← hx] at c1
      have Hx := Lib.hid hx
      clear hx
      go_wp2_with fail
      refine (sx_in x _ _ w).mono ?_
      rintro e w' ⟨rfl, rfl⟩
      by_cases h0 : -32767 ≤ x ∧ x ≤ 32767
      · rw [decide_eq_true h0.1, decide_eq_true h0.2, Bool.and_true]
        have H0 := Lib.hid h0
        clear h0
        go_wp2
        go_round
        case rel => exact ⟨k + 1, by omega, by go_num, Lib.hid (fun i hi => by
          by_cases e : i = k
          · rw [e, ← Hx.out]; exact H0.out
          · exact hz.out i (by omega))⟩
        case measure => simp [intOf] <;> omega
      · have hb : (decide (-32767 ≤ x) && decide (x ≤ 32767)) = false := by
          apply Bool.eq_false_iff.2
          simp only [Bool.and_eq_true, decide_eq_true_eq, ne_eq]
          exact h0
        rw [hb]
        have hno : ¬ ∀ i, i < n → -32767 ≤ y (off + i) ∧ y (off + i) ≤ 32767 := fun h => h0 (by rw [Hx.out]; exact h k hlt)
        have Hno := Lib.hid hno
        clear hno hb h0
        go_wp2
        go_ret
        exact Tells.no Hno.out (Only.refl _ _)
    · obtain rfl : k = n := by omega
      go_wp2
      go_ret
      exact Tells.yes hz.out (Only.refl _ _)
/-- Has a macroblock a block of coefficients? May the block be? -/
def hasBlk (L G b : Nat) : Prop := (b < 16 ∧ L / 2 ^ (b / 4) % 2 = 1) ∨ (16 ≤ b ∧ G = 2)
def blkOk (y : Nat → Int) (L G b : Nat) : Prop := (¬ hasBlk L G b → ∀ i, i < 16 → y (50 + b * 16 + i) = 0) ∧ (y 0 = 1 ∨ 16 ≤ b → y (50 + b * 16) = 0) ∧ ∀ i, i < 16 → -32767 ≤ y (50 + b * 16 + i) ∧ y (50 + b * 16 + i) ≤ 32767
def hasDc (y : Nat → Int) (G k : Nat) : Prop := (k = 0 ∧ y 0 = 1) ∨ (0 < k ∧ 0 < G)
def dcOk (y : Nat → Int) (G k : Nat) : Prop := (¬ hasDc y G k → ∀ i, i < 16 → y (434 + k * 16 + i) = 0) ∧ (0 < k → ∀ i, i < 12 → y (434 + k * 16 + 4 + i) = 0) ∧ ∀ i, i < 16 → -32767 ≤ y (434 + k * 16 + i) ∧ y (434 + k * 16 + i) ≤ 32767
def coefsOk (y : Nat → Int) : Prop := ∃ L G : Nat, L ≤ 15 ∧ G ≤ 2 ∧ y 48 = L + 16 * G ∧ (y 0 = 1 → L = 0 ∨ L = 15) ∧ (∀ b, b < 24 → blkOk y L G b) ∧ ∀ k, k < 3 → dcOk y G k
theorem coefsOk_iff {y : Nat → Int} {L G : Nat} (hL : L ≤ 15) (hG : G ≤ 2) (h48 : y 48 = L + 16 * G) : coefsOk y ↔ (y 0 = 1 → L = 0 ∨ L = 15) ∧ (∀ b, b < 24 → blkOk y L G b) ∧ ∀ k, k < 3 → dcOk y G k := by
  constructor
  · rintro ⟨L', G', h1, h2, h3, h4, h5, h6⟩
    obtain rfl : L' = L := by omega
    obtain rfl : G' = G := by omega
    exact ⟨h4, h5, h6⟩
  · rintro ⟨h4, h5, h6⟩
    exact ⟨L, G, hL, hG, h48, h4, h5, h6⟩
set_option maxRecDepth 100000 in
set_option maxHeartbeats 12000000 in
theorem my_coefs {mb : Nat} {y : Nat → Int} {w : World} (hc : ∀ j, j < 482 → w.cell? ⟨mb, j, none⟩ = some (.int .i64 (y j))) :
    Calls Tryz.prog 88 #[.pointer (some ⟨mb, 0, none⟩)] w fun e w' => Tells (coefsOk y) w e w' := by
  have c0 := hc 0 (by decide)
  have c48 := hc 48 (by decide)
  have Hc := Lib.hid hc
  obtain ⟨kd, hkd⟩ : ∃ kd, kd = y 0 := ⟨_, rfl⟩
  obtain ⟨z, hz⟩ : ∃ z, z = y 48 := ⟨_, rfl⟩
  rw [← hkd] at c0
  rw [← hz] at c48
  have Hkd := Lib.hid hkd
  have Hz := Lib.hid hz
  clear hc hkd hz
  go_enter Tryz.func88, Tryz.ntmps88
  go_wp2_with fail
  go_region
  by_cases hr : 0 ≤ z ∧ z ≤ 47
  · obtain ⟨L, hL⟩ : ∃ L : Nat, z % 16 = L := ⟨(z % 16).toNat, by omega⟩
    obtain ⟨G, hG⟩ : ∃ G : Nat, z / 16 = G := ⟨(z / 16).toNat, by omega⟩
    have hi16 : bits .and .i64 z 15 = z % 16 := i64_and15 z
    have HL : Hid (L ≤ 15) := Lib.hid (by omega)
    have HG : Hid (G ≤ 2) := Lib.hid (by omega)
    have hL15 : L ≤ 15 := by omega
    have hG2b : G ≤ 2 := by omega
    have HzL : Hid (y 48 = L + 16 * G) := Lib.hid (by rw [← Hz.out]; omega)
    have hd1 : decide (0 ≤ z) = true := decide_eq_true hr.1
    have hd2 : decide (z ≤ 47) = true := decide_eq_true hr.2
    obtain ⟨gi, hgi⟩ : ∃ gi : Int, gi = G := ⟨_, rfl⟩
    have Hgi := Lib.hid hgi
    rw [hL, hG, ← hgi]
    have HO0 : Hid (Only [] w w.drew) := Lib.hid (Only.refl [] w).drew
    have c0d : w.drew.cell? ⟨mb, 0, none⟩ = some (.int .i64 kd) := c0
    have c48d : w.drew.cell? ⟨mb, 48, none⟩ = some (.int .i64 z) := c48
    clear hL hG hi16 hgi
    generalize w.drew = wd at *
    go_wp2_with fail
    refine (sx_in z _ _ wd).mono ?_
    rintro e w' ⟨rfl, rfl⟩
    rw [hd1, hd2, Bool.and_true]
    clear hd1 hd2
    have HCW : Hid (∀ wr, Only [] w wr → ∀ j, j < 482 → wr.cell? ⟨mb, j, none⟩ = some (.int .i64 (y j))) := Lib.hid (fun wr ho j hj => ho.cell (Hc.out j hj) (by simp))
    by_cases hbad : kd = 1 ∧ L ≠ 0 ∧ L ≠ 15
    · obtain ⟨hk1, hl0, hl15⟩ := hbad
      have hno : ¬ ((y 0 = 1 → L = 0 ∨ L = 15) ∧ (∀ b, b < 24 → blkOk y L G b) ∧ ∀ k, k < 3 → dcOk y G k) := fun h => by
        have := h.1 (by rw [← Hkd.out, hk1])
        omega
      have f1 : ((L : Int) != 0) = true := by simp; omega
      have f2 : ((L : Int) != 15) = true := by simp; omega
      subst hk1
      have Hno := Lib.hid hno
      clear hno
      go_wp2
      go_ret
      exact Tells.no (fun h => Hno.out ((coefsOk_iff HL.out HG.out HzL.out).1 h)) HO0.out
    · have hLk : Hid (y 0 = 1 → L = 0 ∨ L = 15) := Lib.hid (fun h => by rw [← Hkd.out] at h; omega)
      have hor : (kd == 1) = false ∨ ((kd == 1) = true ∧ ((L : Int) != 0) = false) ∨ ((kd == 1) = true ∧ ((L : Int) != 0) = true ∧ ((L : Int) != 15) = false) := by
        by_cases h1 : kd = 1
        · by_cases h2 : L = 0
          · exact .inr (.inl ⟨by simp [h1], by simp [h2]⟩)
          · have h3 : L = 15 := by omega
            exact .inr (.inr ⟨by simp [h1], by simp [h2], by simp [h3]⟩)
        · exact .inl (by simpa using h1)
      clear hbad
      rcases hor with e1 | ⟨e1, e2⟩ | ⟨e1, e2, e3⟩
      all_goals
        go_wp2
        clear e1
        try clear e2
        try clear e3
        clear c0d c48d
        go_loopw [42] (fun q wr => ∃ b : Nat, b ≤ 24 ∧ q = .int .i64 b ∧ Hid (∀ b', b' < b → blkOk y L G b') ∧ Only [] w wr) (fun q _ => 24 - (intOf q).toNat)
        case atStart => exact ⟨0, by omega, rfl, Lib.hid (fun b hb => absurd hb (Nat.not_lt_zero b)), HO0.out⟩
        case round =>
          obtain ⟨b, hb24, rfl, hall, ho⟩ := hrel
          have HO := Lib.hid ho
          have hcw := HCW.out wr ho
          clear ho
          by_cases hlt : b < 24
          · have Hcb : Hid (∀ i, i < 16 → wr.cell? ⟨mb, 50 + b * 16 + i, none⟩ = some (.int .i64 (y (50 + b * 16 + i)))) := Lib.hid (fun i hi => hcw _ (by omega))
            have c0r : wr.cell? ⟨mb, 0, none⟩ = some (.int .i64 kd) := by rw [hcw 0 (by decide), Hkd.out]
            have cb0 := hcw (50 + b * 16) (by omega)
            obtain ⟨v0, hv0⟩ : ∃ v0, v0 = y (50 + b * 16) := ⟨_, rfl⟩
            rw [← hv0] at cb0
            have Hv0 := Lib.hid hv0
            replace HCW : Hid (∀ wr, Only [] w wr → ∀ i, i < 16 → wr.cell? ⟨mb, 50 + b * 16 + i, none⟩ = some (.int .i64 (y (50 + b * 16 + i)))) := Lib.hid (fun wr ho i hi => HCW.out wr ho _ (by omega))
            clear hcw hv0
            by_cases h16 : b < 16
            · have hcast : (L : Int) / 2 ^ (b / 4) % 2 = ((L / 2 ^ (b / 4) % 2 : Nat) : Int) := by push_cast; rfl
              rcases Nat.mod_two_eq_zero_or_one (L / 2 ^ (b / 4)) with hbit | hbit
              · have hbi : ((L : Int) / 2 ^ (b / 4) % 2 == 1) = false := by rw [hcast, hbit]; rfl
                have Hhas : Hid (¬ hasBlk L G b) := Lib.hid (by unfold hasBlk; omega)
                clear hcast hbit
                by_cases hk1 : kd = 1
                · subst hk1
                  have Hchk : Hid (y 0 = 1 ∨ 16 ≤ b) := Lib.hid (.inl Hkd.out.symm)
                  go_wp2_with fail
                  refine (my_zero (y := y) (off := 50 + b * 16) (n := 16) Hcb.out (by decide)).mono ?_
                  rintro e wz ⟨bz, rfl, hbz, hoz⟩
                  have HO2 := Lib.hid (HO.out.trans hoz)
                  have Hbz := Lib.hid hbz
                  have cz0 := hoz.cell c0r (by simp)
                  have czb := hoz.cell cb0 (by simp)
                  clear hoz hbz
                  cases bz with
                  | false =>
                    have hno : ¬ ((y 0 = 1 → L = 0 ∨ L = 15) ∧ (∀ b, b < 24 → blkOk y L G b) ∧ ∀ k, k < 3 → dcOk y G k) := fun h => by
                      have h1 := (h.2.1 b hlt).1 Hhas.out
                      have h2 := Hbz.out.2 h1
                      cases h2
                    have Hno := Lib.hid hno
                    clear hno
                    go_wp2
                    go_ret
                    exact Tells.no (fun h => Hno.out ((coefsOk_iff HL.out HG.out HzL.out).1 h)) HO2.out
                  | true =>
                    have hZ : Hid (¬ hasBlk L G b → ∀ i, i < 16 → y (50 + b * 16 + i) = 0) := Lib.hid (fun _ => Hbz.out.1 rfl)
                    by_cases h0 : v0 = 0
                    · have hV : Hid (y 0 = 1 ∨ 16 ≤ b → y (50 + b * 16) = 0) := Lib.hid (fun _ => by rw [← Hv0.out, h0])
                      subst h0
                      go_wp2_with fail
                      refine (my_small (y := y) (off := 50 + b * 16) (n := 16) (fun i hi => (HCW.out wz HO2.out) i hi) (by decide)).mono ?_
                      rintro e wy ⟨bs, rfl, hbs, hos⟩
                      have HO3 := Lib.hid (HO2.out.trans hos)
                      have Hbs := Lib.hid hbs
                      clear hos hbs
                      cases bs with
                      | false =>
                        have hno : ¬ ((y 0 = 1 → L = 0 ∨ L = 15) ∧ (∀ b, b < 24 → blkOk y L G b) ∧ ∀ k, k < 3 → dcOk y G k) := fun h => by
                          have h2 := Hbs.out.2 (h.2.1 b hlt).2.2
                          cases h2
                        have Hno := Lib.hid hno
                        clear hno
                        go_wp2
                        go_ret
                        exact Tells.no (fun h => Hno.out ((coefsOk_iff HL.out HG.out HzL.out).1 h)) HO3.out
                      | true =>
                        have hok : Hid (blkOk y L G b) := Lib.hid ⟨hZ.out, hV.out, Hbs.out.1 rfl⟩
                        go_wp2
                        go_roundw
                        case rel => exact ⟨b + 1, by omega, by go_num, Lib.hid (fun b' hb' => by
                          by_cases e : b' = b
                          · rw [e]; exact hok.out
                          · exact hall.out b' (by omega)), HO3.out⟩
                        case measure => simp [intOf] <;> omega
                    · have hvb : (v0 != 0) = true := by simp [h0]
                      have hno : ¬ ((y 0 = 1 → L = 0 ∨ L = 15) ∧ (∀ b, b < 24 → blkOk y L G b) ∧ ∀ k, k < 3 → dcOk y G k) := fun h => h0 (by rw [Hv0.out]; exact (h.2.1 b hlt).2.1 Hchk.out)
                      try clear Hbz
                      have Hno := Lib.hid hno
                      clear hno
                      go_wp2
                      go_ret
                      exact Tells.no (fun h => Hno.out ((coefsOk_iff HL.out HG.out HzL.out).1 h)) HO2.out
                · have ek : (kd == 1) = false := by simpa using hk1
                  have Hchk : Hid (¬ (y 0 = 1 ∨ 16 ≤ b)) := Lib.hid (by rw [← Hkd.out]; omega)
                  clear hk1
                  go_wp2_with fail
                  refine (my_zero (y := y) (off := 50 + b * 16) (n := 16) Hcb.out (by decide)).mono ?_
                  rintro e wz ⟨bz, rfl, hbz, hoz⟩
                  have HO2 := Lib.hid (HO.out.trans hoz)
                  have Hbz := Lib.hid hbz
                  have cz0 := hoz.cell c0r (by simp)
                  have czb := hoz.cell cb0 (by simp)
                  clear hoz hbz
                  cases bz with
                  | false =>
                    have hno : ¬ ((y 0 = 1 → L = 0 ∨ L = 15) ∧ (∀ b, b < 24 → blkOk y L G b) ∧ ∀ k, k < 3 → dcOk y G k) := fun h => by
                      have h1 := (h.2.1 b hlt).1 Hhas.out
                      have h2 := Hbz.out.2 h1
                      cases h2
                    have Hno := Lib.hid hno
                    clear hno
                    go_wp2
                    go_ret
                    exact Tells.no (fun h => Hno.out ((coefsOk_iff HL.out HG.out HzL.out).1 h)) HO2.out
                  | true =>
                    have hZ : Hid (¬ hasBlk L G b → ∀ i, i < 16 → y (50 + b * 16 + i) = 0) := Lib.hid (fun _ => Hbz.out.1 rfl)
                    have hV : Hid (y 0 = 1 ∨ 16 ≤ b → y (50 + b * 16) = 0) := Lib.hid (fun h => absurd h Hchk.out)
                    go_wp2_with fail
                    refine (my_small (y := y) (off := 50 + b * 16) (n := 16) (fun i hi => (HCW.out wz HO2.out) i hi) (by decide)).mono ?_
                    rintro e wy ⟨bs, rfl, hbs, hos⟩
                    have HO3 := Lib.hid (HO2.out.trans hos)
                    have Hbs := Lib.hid hbs
                    clear hos hbs
                    cases bs with
                    | false =>
                      have hno : ¬ ((y 0 = 1 → L = 0 ∨ L = 15) ∧ (∀ b, b < 24 → blkOk y L G b) ∧ ∀ k, k < 3 → dcOk y G k) := fun h => by
                        have h2 := Hbs.out.2 (h.2.1 b hlt).2.2
                        cases h2
                      have Hno := Lib.hid hno
                      clear hno
                      go_wp2
                      go_ret
                      exact Tells.no (fun h => Hno.out ((coefsOk_iff HL.out HG.out HzL.out).1 h)) HO3.out
                    | true =>
                      have hok : Hid (blkOk y L G b) := Lib.hid ⟨hZ.out, hV.out, Hbs.out.1 rfl⟩
                      go_wp2
                      go_roundw
                      case rel => exact ⟨b + 1, by omega, by go_num, Lib.hid (fun b' hb' => by
                        by_cases e : b' = b
                        · rw [e]; exact hok.out
                        · exact hall.out b' (by omega)), HO3.out⟩
                      case measure => simp [intOf] <;> omega
              · have hbi : ((L : Int) / 2 ^ (b / 4) % 2 == 1) = true := by rw [hcast, hbit]; rfl
                have Hhas : Hid (hasBlk L G b) := Lib.hid (.inl ⟨h16, hbit⟩)
                clear hcast hbit
                by_cases hk1 : kd = 1
                · subst hk1
                  have Hchk : Hid (y 0 = 1 ∨ 16 ≤ b) := Lib.hid (.inl Hkd.out.symm)
                  have hZ : Hid (¬ hasBlk L G b → ∀ i, i < 16 → y (50 + b * 16 + i) = 0) := Lib.hid (fun h => absurd Hhas.out h)
                  by_cases h0 : v0 = 0
                  · have hV : Hid (y 0 = 1 ∨ 16 ≤ b → y (50 + b * 16) = 0) := Lib.hid (fun _ => by rw [← Hv0.out, h0])
                    subst h0
                    go_wp2_with fail
                    refine (my_small (y := y) (off := 50 + b * 16) (n := 16) (fun i hi => (HCW.out wr HO.out) i hi) (by decide)).mono ?_
                    rintro e wy ⟨bs, rfl, hbs, hos⟩
                    have HO3 := Lib.hid (HO.out.trans hos)
                    have Hbs := Lib.hid hbs
                    clear hos hbs
                    cases bs with
                    | false =>
                      have hno : ¬ ((y 0 = 1 → L = 0 ∨ L = 15) ∧ (∀ b, b < 24 → blkOk y L G b) ∧ ∀ k, k < 3 → dcOk y G k) := fun h => by
                        have h2 := Hbs.out.2 (h.2.1 b hlt).2.2
                        cases h2
                      have Hno := Lib.hid hno
                      clear hno
                      go_wp2
                      go_ret
                      exact Tells.no (fun h => Hno.out ((coefsOk_iff HL.out HG.out HzL.out).1 h)) HO3.out
                    | true =>
                      have hok : Hid (blkOk y L G b) := Lib.hid ⟨hZ.out, hV.out, Hbs.out.1 rfl⟩
                      go_wp2
                      go_roundw
                      case rel => exact ⟨b + 1, by omega, by go_num, Lib.hid (fun b' hb' => by
                        by_cases e : b' = b
                        · rw [e]; exact hok.out
                        · exact hall.out b' (by omega)), HO3.out⟩
                      case measure => simp [intOf] <;> omega
                  · have hvb : (v0 != 0) = true := by simp [h0]
                    have hno : ¬ ((y 0 = 1 → L = 0 ∨ L = 15) ∧ (∀ b, b < 24 → blkOk y L G b) ∧ ∀ k, k < 3 → dcOk y G k) := fun h => h0 (by rw [Hv0.out]; exact (h.2.1 b hlt).2.1 Hchk.out)
                    try clear Hbz
                    have Hno := Lib.hid hno
                    clear hno
                    go_wp2
                    go_ret
                    exact Tells.no (fun h => Hno.out ((coefsOk_iff HL.out HG.out HzL.out).1 h)) HO.out
                · have ek : (kd == 1) = false := by simpa using hk1
                  have Hchk : Hid (¬ (y 0 = 1 ∨ 16 ≤ b)) := Lib.hid (by rw [← Hkd.out]; omega)
                  clear hk1
                  have hZ : Hid (¬ hasBlk L G b → ∀ i, i < 16 → y (50 + b * 16 + i) = 0) := Lib.hid (fun h => absurd Hhas.out h)
                  have hV : Hid (y 0 = 1 ∨ 16 ≤ b → y (50 + b * 16) = 0) := Lib.hid (fun h => absurd h Hchk.out)
                  go_wp2_with fail
                  refine (my_small (y := y) (off := 50 + b * 16) (n := 16) (fun i hi => (HCW.out wr HO.out) i hi) (by decide)).mono ?_
                  rintro e wy ⟨bs, rfl, hbs, hos⟩
                  have HO3 := Lib.hid (HO.out.trans hos)
                  have Hbs := Lib.hid hbs
                  clear hos hbs
                  cases bs with
                  | false =>
                    have hno : ¬ ((y 0 = 1 → L = 0 ∨ L = 15) ∧ (∀ b, b < 24 → blkOk y L G b) ∧ ∀ k, k < 3 → dcOk y G k) := fun h => by
                      have h2 := Hbs.out.2 (h.2.1 b hlt).2.2
                      cases h2
                    have Hno := Lib.hid hno
                    clear hno
                    go_wp2
                    go_ret
                    exact Tells.no (fun h => Hno.out ((coefsOk_iff HL.out HG.out HzL.out).1 h)) HO3.out
                  | true =>
                    have hok : Hid (blkOk y L G b) := Lib.hid ⟨hZ.out, hV.out, Hbs.out.1 rfl⟩
                    go_wp2
                    go_roundw
                    case rel => exact ⟨b + 1, by omega, by go_num, Lib.hid (fun b' hb' => by
                      by_cases e : b' = b
                      · rw [e]; exact hok.out
                      · exact hall.out b' (by omega)), HO3.out⟩
                    case measure => simp [intOf] <;> omega
            · have Hchk : Hid (y 0 = 1 ∨ 16 ≤ b) := Lib.hid (.inr (by omega))
              have hkor : (kd == 1) = true ∨ (kd == 1) = false := by cases (kd == 1) <;> simp
              by_cases hG2 : G = 2
              · have hgi : (gi == 2) = true := by rw [Hgi.out, hG2]; rfl
                have Hhas : Hid (hasBlk L G b) := Lib.hid (.inr ⟨by omega, hG2⟩)
                clear hG2
                rcases hkor with ek | ek
                all_goals
                  have hZ : Hid (¬ hasBlk L G b → ∀ i, i < 16 → y (50 + b * 16 + i) = 0) := Lib.hid (fun h => absurd Hhas.out h)
                  by_cases h0 : v0 = 0
                  · have hV : Hid (y 0 = 1 ∨ 16 ≤ b → y (50 + b * 16) = 0) := Lib.hid (fun _ => by rw [← Hv0.out, h0])
                    subst h0
                    go_wp2_with fail
                    refine (my_small (y := y) (off := 50 + b * 16) (n := 16) (fun i hi => (HCW.out wr HO.out) i hi) (by decide)).mono ?_
                    rintro e wy ⟨bs, rfl, hbs, hos⟩
                    have HO3 := Lib.hid (HO.out.trans hos)
                    have Hbs := Lib.hid hbs
                    clear hos hbs
                    cases bs with
                    | false =>
                      have hno : ¬ ((y 0 = 1 → L = 0 ∨ L = 15) ∧ (∀ b, b < 24 → blkOk y L G b) ∧ ∀ k, k < 3 → dcOk y G k) := fun h => by
                        have h2 := Hbs.out.2 (h.2.1 b hlt).2.2
                        cases h2
                      have Hno := Lib.hid hno
                      clear hno
                      go_wp2
                      go_ret
                      exact Tells.no (fun h => Hno.out ((coefsOk_iff HL.out HG.out HzL.out).1 h)) HO3.out
                    | true =>
                      have hok : Hid (blkOk y L G b) := Lib.hid ⟨hZ.out, hV.out, Hbs.out.1 rfl⟩
                      go_wp2
                      go_roundw
                      case rel => exact ⟨b + 1, by omega, by go_num, Lib.hid (fun b' hb' => by
                        by_cases e : b' = b
                        · rw [e]; exact hok.out
                        · exact hall.out b' (by omega)), HO3.out⟩
                      case measure => simp [intOf] <;> omega
                  · have hvb : (v0 != 0) = true := by simp [h0]
                    have hno : ¬ ((y 0 = 1 → L = 0 ∨ L = 15) ∧ (∀ b, b < 24 → blkOk y L G b) ∧ ∀ k, k < 3 → dcOk y G k) := fun h => h0 (by rw [Hv0.out]; exact (h.2.1 b hlt).2.1 Hchk.out)
                    try clear Hbz
                    have Hno := Lib.hid hno
                    clear hno
                    go_wp2
                    go_ret
                    exact Tells.no (fun h => Hno.out ((coefsOk_iff HL.out HG.out HzL.out).1 h)) HO.out
              · have hgi : (gi == 2) = false := by rw [Hgi.out]; simp; omega
                have Hhas : Hid (¬ hasBlk L G b) := Lib.hid (by unfold hasBlk; omega)
                clear hG2
                rcases hkor with ek | ek
                all_goals
                  go_wp2_with fail
                  refine (my_zero (y := y) (off := 50 + b * 16) (n := 16) Hcb.out (by decide)).mono ?_
                  rintro e wz ⟨bz, rfl, hbz, hoz⟩
                  have HO2 := Lib.hid (HO.out.trans hoz)
                  have Hbz := Lib.hid hbz
                  have cz0 := hoz.cell c0r (by simp)
                  have czb := hoz.cell cb0 (by simp)
                  clear hoz hbz
                  cases bz with
                  | false =>
                    have hno : ¬ ((y 0 = 1 → L = 0 ∨ L = 15) ∧ (∀ b, b < 24 → blkOk y L G b) ∧ ∀ k, k < 3 → dcOk y G k) := fun h => by
                      have h1 := (h.2.1 b hlt).1 Hhas.out
                      have h2 := Hbz.out.2 h1
                      cases h2
                    have Hno := Lib.hid hno
                    clear hno
                    go_wp2
                    go_ret
                    exact Tells.no (fun h => Hno.out ((coefsOk_iff HL.out HG.out HzL.out).1 h)) HO2.out
                  | true =>
                    have hZ : Hid (¬ hasBlk L G b → ∀ i, i < 16 → y (50 + b * 16 + i) = 0) := Lib.hid (fun _ => Hbz.out.1 rfl)
                    by_cases h0 : v0 = 0
                    · have hV : Hid (y 0 = 1 ∨ 16 ≤ b → y (50 + b * 16) = 0) := Lib.hid (fun _ => by rw [← Hv0.out, h0])
                      subst h0
                      go_wp2_with fail
                      refine (my_small (y := y) (off := 50 + b * 16) (n := 16) (fun i hi => (HCW.out wz HO2.out) i hi) (by decide)).mono ?_
                      rintro e wy ⟨bs, rfl, hbs, hos⟩
                      have HO3 := Lib.hid (HO2.out.trans hos)
                      have Hbs := Lib.hid hbs
                      clear hos hbs
                      cases bs with
                      | false =>
                        have hno : ¬ ((y 0 = 1 → L = 0 ∨ L = 15) ∧ (∀ b, b < 24 → blkOk y L G b) ∧ ∀ k, k < 3 → dcOk y G k) := fun h => by
                          have h2 := Hbs.out.2 (h.2.1 b hlt).2.2
                          cases h2
                        have Hno := Lib.hid hno
                        clear hno
                        go_wp2
                        go_ret
                        exact Tells.no (fun h => Hno.out ((coefsOk_iff HL.out HG.out HzL.out).1 h)) HO3.out
                      | true =>
                        have hok : Hid (blkOk y L G b) := Lib.hid ⟨hZ.out, hV.out, Hbs.out.1 rfl⟩
                        go_wp2
                        go_roundw
                        case rel => exact ⟨b + 1, by omega, by go_num, Lib.hid (fun b' hb' => by
                          by_cases e : b' = b
                          · rw [e]; exact hok.out
                          · exact hall.out b' (by omega)), HO3.out⟩
                        case measure => simp [intOf] <;> omega
                    · have hvb : (v0 != 0) = true := by simp [h0]
                      have hno : ¬ ((y 0 = 1 → L = 0 ∨ L = 15) ∧ (∀ b, b < 24 → blkOk y L G b) ∧ ∀ k, k < 3 → dcOk y G k) := fun h => h0 (by rw [Hv0.out]; exact (h.2.1 b hlt).2.1 Hchk.out)
                      try clear Hbz
                      have Hno := Lib.hid hno
                      clear hno
                      go_wp2
                      go_ret
                      exact Tells.no (fun h => Hno.out ((coefsOk_iff HL.out HG.out HzL.out).1 h)) HO2.out
          · have hb24' : 24 ≤ b := by omega
            have hall2 : Hid (∀ b, b < 24 → blkOk y L G b) := Lib.hid (fun b' h => hall.out b' (by omega))
            have HO := Lib.hid HO.out
            clear hcw
            go_wp2
            go_loopw [99] (fun q wr => ∃ k : Nat, k ≤ 3 ∧ q = .int .i64 k ∧ Hid (∀ k', k' < k → dcOk y G k') ∧ Only [] w wr) (fun q _ => 3 - (intOf q).toNat)
            case atStart => exact ⟨0, by omega, rfl, Lib.hid (fun b hb => absurd hb (Nat.not_lt_zero b)), HO.out⟩
            case round =>
              obtain ⟨k, hk3, rfl, hallD, ho⟩ := hrel
              have HO := Lib.hid ho
              have hcw := HCW.out wr ho
              clear ho
              by_cases hkt : k < 3
              · have Hcb : Hid (∀ i, i < 16 → wr.cell? ⟨mb, 434 + k * 16 + i, none⟩ = some (.int .i64 (y (434 + k * 16 + i)))) := Lib.hid (fun i hi => hcw _ (by omega))
                have c0r : wr.cell? ⟨mb, 0, none⟩ = some (.int .i64 kd) := by rw [hcw 0 (by decide), Hkd.out]
                replace HCW : Hid (∀ wr, Only [] w wr → ∀ i, i < 16 → wr.cell? ⟨mb, 434 + k * 16 + i, none⟩ = some (.int .i64 (y (434 + k * 16 + i)))) := Lib.hid (fun wr ho i hi => HCW.out wr ho _ (by omega))
                clear hcw
                by_cases hk00 : k = 0
                · have Hk0 : Hid (¬ 0 < k) := Lib.hid (by omega)
                  have ek0 : ((k : Int) == 0) = true := by simp [hk00]
                  have hki : ¬ (0 : Int) < k := by omega
                  have Hk00 := Lib.hid hk00
                  clear hk00
                  by_cases hk1 : kd = 1
                  · subst hk1
                    have Hhas : Hid (hasDc y G k) := Lib.hid (.inl ⟨Hk00.out, Hkd.out.symm⟩)
                    have hZ : Hid (¬ hasDc y G k → ∀ i, i < 16 → y (434 + k * 16 + i) = 0) := Lib.hid (fun h => absurd Hhas.out h)
                    have hV : Hid (0 < k → ∀ i, i < 12 → y (434 + k * 16 + 4 + i) = 0) := Lib.hid (fun h => absurd h Hk0.out)
                    go_wp2_with fail
                    refine (my_small (y := y) (off := 434 + k * 16) (n := 16) (fun i hi => (HCW.out wr HO.out) i hi) (by decide)).mono ?_
                    rintro e wy ⟨bs, rfl, hbs, hos⟩
                    have HO3 := Lib.hid (HO.out.trans hos)
                    have Hbs := Lib.hid hbs
                    clear hos hbs
                    cases bs with
                    | false =>
                      have hno : ¬ ((y 0 = 1 → L = 0 ∨ L = 15) ∧ (∀ b, b < 24 → blkOk y L G b) ∧ ∀ k, k < 3 → dcOk y G k) := fun h => by
                        have h2 := Hbs.out.2 (h.2.2 k hkt).2.2
                        cases h2
                      have Hno := Lib.hid hno
                      clear hno
                      go_wp2
                      go_ret
                      exact Tells.no (fun h => Hno.out ((coefsOk_iff HL.out HG.out HzL.out).1 h)) HO3.out
                    | true =>
                      have hok : Hid (dcOk y G k) := Lib.hid ⟨hZ.out, hV.out, Hbs.out.1 rfl⟩
                      go_wp2
                      go_roundw
                      case rel => exact ⟨k + 1, by omega, by go_num, Lib.hid (fun b' hb' => by
                        by_cases e : b' = k
                        · rw [e]; exact hok.out
                        · exact hallD.out b' (by omega)), HO3.out⟩
                      case measure => simp [intOf] <;> omega
                  · have ek : (kd == 1) = false := by simpa using hk1
                    have Hhas : Hid (¬ hasDc y G k) := Lib.hid (by unfold hasDc; rw [← Hkd.out]; have := Hk0.out; omega)
                    clear hk1
                    go_wp2_with fail
                    refine (my_zero (y := y) (off := 434 + k * 16) (n := 16) Hcb.out (by decide)).mono ?_
                    rintro e wz ⟨bz, rfl, hbz, hoz⟩
                    have HO2 := Lib.hid (HO.out.trans hoz)
                    have Hbz := Lib.hid hbz
                    clear hoz hbz
                    cases bz with
                    | false =>
                      have hno : ¬ ((y 0 = 1 → L = 0 ∨ L = 15) ∧ (∀ b, b < 24 → blkOk y L G b) ∧ ∀ k, k < 3 → dcOk y G k) := fun h => by
                        have h2 := Hbz.out.2 ((h.2.2 k hkt).1 Hhas.out)
                        cases h2
                      have Hno := Lib.hid hno
                      clear hno
                      go_wp2
                      go_ret
                      exact Tells.no (fun h => Hno.out ((coefsOk_iff HL.out HG.out HzL.out).1 h)) HO2.out
                    | true =>
                      have hZ : Hid (¬ hasDc y G k → ∀ i, i < 16 → y (434 + k * 16 + i) = 0) := Lib.hid (fun _ => Hbz.out.1 rfl)
                      have hV : Hid (0 < k → ∀ i, i < 12 → y (434 + k * 16 + 4 + i) = 0) := Lib.hid (fun h => absurd h Hk0.out)
                      go_wp2_with fail
                      refine (my_small (y := y) (off := 434 + k * 16) (n := 16) (fun i hi => (HCW.out wz HO2.out) i hi) (by decide)).mono ?_
                      rintro e wy ⟨bs, rfl, hbs, hos⟩
                      have HO3 := Lib.hid (HO2.out.trans hos)
                      have Hbs := Lib.hid hbs
                      clear hos hbs
                      cases bs with
                      | false =>
                        have hno : ¬ ((y 0 = 1 → L = 0 ∨ L = 15) ∧ (∀ b, b < 24 → blkOk y L G b) ∧ ∀ k, k < 3 → dcOk y G k) := fun h => by
                          have h2 := Hbs.out.2 (h.2.2 k hkt).2.2
                          cases h2
                        have Hno := Lib.hid hno
                        clear hno
                        go_wp2
                        go_ret
                        exact Tells.no (fun h => Hno.out ((coefsOk_iff HL.out HG.out HzL.out).1 h)) HO3.out
                      | true =>
                        have hok : Hid (dcOk y G k) := Lib.hid ⟨hZ.out, hV.out, Hbs.out.1 rfl⟩
                        go_wp2
                        go_roundw
                        case rel => exact ⟨k + 1, by omega, by go_num, Lib.hid (fun b' hb' => by
                          by_cases e : b' = k
                          · rw [e]; exact hok.out
                          · exact hallD.out b' (by omega)), HO3.out⟩
                        case measure => simp [intOf] <;> omega
                · have Hk0 : Hid (0 < k) := Lib.hid (by omega)
                  have ek0 : ((k : Int) == 0) = false := by simp; omega
                  have hki : (0 : Int) < k := by omega
                  by_cases hG0 : 0 < G
                  · have hgi : (0 : Int) < gi := by rw [Hgi.out]; omega
                    have Hhas : Hid (hasDc y G k) := Lib.hid (.inr ⟨by omega, hG0⟩)
                    clear hG0
                    have hZ : Hid (¬ hasDc y G k → ∀ i, i < 16 → y (434 + k * 16 + i) = 0) := Lib.hid (fun h => absurd Hhas.out h)
                    go_wp2_with fail
                    refine (my_zero (y := y) (off := 434 + k * 16 + 4) (n := 12) (fun i hi => by have := HCW.out wr HO.out (4 + i) (by omega); rw [← Nat.add_assoc] at this; exact this) (by decide)).mono ?_
                    rintro e wv ⟨bv, rfl, hbv, hov⟩
                    have HO4 := Lib.hid (HO.out.trans hov)
                    have Hbv := Lib.hid hbv
                    clear hov hbv
                    cases bv with
                    | false =>
                      have hno : ¬ ((y 0 = 1 → L = 0 ∨ L = 15) ∧ (∀ b, b < 24 → blkOk y L G b) ∧ ∀ k, k < 3 → dcOk y G k) := fun h => by
                        have h2 := Hbv.out.2 ((h.2.2 k hkt).2.1 Hk0.out)
                        cases h2
                      have Hno := Lib.hid hno
                      clear hno
                      go_wp2
                      go_ret
                      exact Tells.no (fun h => Hno.out ((coefsOk_iff HL.out HG.out HzL.out).1 h)) HO4.out
                    | true =>
                      have hV : Hid (0 < k → ∀ i, i < 12 → y (434 + k * 16 + 4 + i) = 0) := Lib.hid (fun _ => Hbv.out.1 rfl)
                      go_wp2_with fail
                      refine (my_small (y := y) (off := 434 + k * 16) (n := 16) (fun i hi => (HCW.out wv HO4.out) i hi) (by decide)).mono ?_
                      rintro e wy ⟨bs, rfl, hbs, hos⟩
                      have HO3 := Lib.hid (HO4.out.trans hos)
                      have Hbs := Lib.hid hbs
                      clear hos hbs
                      cases bs with
                      | false =>
                        have hno : ¬ ((y 0 = 1 → L = 0 ∨ L = 15) ∧ (∀ b, b < 24 → blkOk y L G b) ∧ ∀ k, k < 3 → dcOk y G k) := fun h => by
                          have h2 := Hbs.out.2 (h.2.2 k hkt).2.2
                          cases h2
                        have Hno := Lib.hid hno
                        clear hno
                        go_wp2
                        go_ret
                        exact Tells.no (fun h => Hno.out ((coefsOk_iff HL.out HG.out HzL.out).1 h)) HO3.out
                      | true =>
                        have hok : Hid (dcOk y G k) := Lib.hid ⟨hZ.out, hV.out, Hbs.out.1 rfl⟩
                        go_wp2
                        go_roundw
                        case rel => exact ⟨k + 1, by omega, by go_num, Lib.hid (fun b' hb' => by
                          by_cases e : b' = k
                          · rw [e]; exact hok.out
                          · exact hallD.out b' (by omega)), HO3.out⟩
                        case measure => simp [intOf] <;> omega
                  · have hgi : ¬ (0 : Int) < gi := by rw [Hgi.out]; omega
                    have Hhas : Hid (¬ hasDc y G k) := Lib.hid (by unfold hasDc; omega)
                    clear hG0
                    go_wp2_with fail
                    refine (my_zero (y := y) (off := 434 + k * 16) (n := 16) Hcb.out (by decide)).mono ?_
                    rintro e wz ⟨bz, rfl, hbz, hoz⟩
                    have HO2 := Lib.hid (HO.out.trans hoz)
                    have Hbz := Lib.hid hbz
                    clear hoz hbz
                    cases bz with
                    | false =>
                      have hno : ¬ ((y 0 = 1 → L = 0 ∨ L = 15) ∧ (∀ b, b < 24 → blkOk y L G b) ∧ ∀ k, k < 3 → dcOk y G k) := fun h => by
                        have h2 := Hbz.out.2 ((h.2.2 k hkt).1 Hhas.out)
                        cases h2
                      have Hno := Lib.hid hno
                      clear hno
                      go_wp2
                      go_ret
                      exact Tells.no (fun h => Hno.out ((coefsOk_iff HL.out HG.out HzL.out).1 h)) HO2.out
                    | true =>
                      have hZ : Hid (¬ hasDc y G k → ∀ i, i < 16 → y (434 + k * 16 + i) = 0) := Lib.hid (fun _ => Hbz.out.1 rfl)
                      go_wp2_with fail
                      refine (my_zero (y := y) (off := 434 + k * 16 + 4) (n := 12) (fun i hi => by have := HCW.out wz HO2.out (4 + i) (by omega); rw [← Nat.add_assoc] at this; exact this) (by decide)).mono ?_
                      rintro e wv ⟨bv, rfl, hbv, hov⟩
                      have HO4 := Lib.hid (HO2.out.trans hov)
                      have Hbv := Lib.hid hbv
                      clear hov hbv
                      cases bv with
                      | false =>
                        have hno : ¬ ((y 0 = 1 → L = 0 ∨ L = 15) ∧ (∀ b, b < 24 → blkOk y L G b) ∧ ∀ k, k < 3 → dcOk y G k) := fun h => by
                          have h2 := Hbv.out.2 ((h.2.2 k hkt).2.1 Hk0.out)
                          cases h2
                        have Hno := Lib.hid hno
                        clear hno
                        go_wp2
                        go_ret
                        exact Tells.no (fun h => Hno.out ((coefsOk_iff HL.out HG.out HzL.out).1 h)) HO4.out
                      | true =>
                        have hV : Hid (0 < k → ∀ i, i < 12 → y (434 + k * 16 + 4 + i) = 0) := Lib.hid (fun _ => Hbv.out.1 rfl)
                        go_wp2_with fail
                        refine (my_small (y := y) (off := 434 + k * 16) (n := 16) (fun i hi => (HCW.out wv HO4.out) i hi) (by decide)).mono ?_
                        rintro e wy ⟨bs, rfl, hbs, hos⟩
                        have HO3 := Lib.hid (HO4.out.trans hos)
                        have Hbs := Lib.hid hbs
                        clear hos hbs
                        cases bs with
                        | false =>
                          have hno : ¬ ((y 0 = 1 → L = 0 ∨ L = 15) ∧ (∀ b, b < 24 → blkOk y L G b) ∧ ∀ k, k < 3 → dcOk y G k) := fun h => by
                            have h2 := Hbs.out.2 (h.2.2 k hkt).2.2
                            cases h2
                          have Hno := Lib.hid hno
                          clear hno
                          go_wp2
                          go_ret
                          exact Tells.no (fun h => Hno.out ((coefsOk_iff HL.out HG.out HzL.out).1 h)) HO3.out
                        | true =>
                          have hok : Hid (dcOk y G k) := Lib.hid ⟨hZ.out, hV.out, Hbs.out.1 rfl⟩
                          go_wp2
                          go_roundw
                          case rel => exact ⟨k + 1, by omega, by go_num, Lib.hid (fun b' hb' => by
                            by_cases e : b' = k
                            · rw [e]; exact hok.out
                            · exact hallD.out b' (by omega)), HO3.out⟩
                          case measure => simp [intOf] <;> omega
              · have hk3' : 3 ≤ k := by omega
                have hall3 : Hid (∀ k, k < 3 → dcOk y G k) := Lib.hid (fun b' h => hallD.out b' (by omega))
                clear hcw
                go_wp2
                go_ret
                exact Tells.yes ((coefsOk_iff HL.out HG.out HzL.out).2 ⟨hLk.out, hall2.out, hall3.out⟩) HO.out
  · have Hno : Hid (¬ coefsOk y) := Lib.hid (by
      rintro ⟨L, G, h1, h2, h3, -⟩
      rw [← Hz.out] at h3
      omega)
    have HO0 : Hid (Only [] w w.drew) := Lib.hid (Only.refl [] w).drew
    have c0d : w.drew.cell? ⟨mb, 0, none⟩ = some (.int .i64 kd) := c0
    have c48d : w.drew.cell? ⟨mb, 48, none⟩ = some (.int .i64 z) := c48
    have hd : (decide (0 ≤ z) && decide (z ≤ 47)) = false := by
      apply Bool.eq_false_iff.2
      simp only [Bool.and_eq_true, decide_eq_true_eq, ne_eq]
      exact hr
    generalize w.drew = wd at *
    generalize z % 16 = z1 at *
    generalize z / 16 = z2 at *
    go_wp2_with fail
    refine (sx_in z _ _ wd).mono ?_
    rintro e w' ⟨rfl, rfl⟩
    rw [hd]
    clear hd hr
    go_wp2
    go_ret
    exact Tells.no Hno.out HO0.out
end Go.Proofs.YtcppbdlmcbjmeaaGreatDoor

namespace Go.Proofs.YtcppbdlmcbjmeaaGreatDoor
open Go.RowKit

/-- Has a slice's type a kind? -/
def hasP (t k : Int) : Prop := ((k = 3 ∨ k = 4) ∧ (t = 0 ∨ t = 1)) ∨ (k = 5 ∧ t = 1) ∨ k = 0 ∨ k = 1 ∨ k = 2
set_option maxRecDepth 100000 in
set_option maxHeartbeats 1600000 in
theorem my_has (t k : Int) (ht : t = 0 ∨ t = 1 ∨ t = 2) (w : World) : Calls Tryz.prog 85 #[.int .i64 t, .int .i64 k] w fun e w' => Tells (hasP t k) w e w' := by
  by_cases hk : k = 3
  · subst hk
    rcases ht with rfl | rfl | rfl
    · go_enter Tryz.func85, Tryz.ntmps85
      go_wp2
      go_ret
      exact Tells.yes (.inl ⟨.inl rfl, .inl rfl⟩) (Only.refl _ _)
    · go_enter Tryz.func85, Tryz.ntmps85
      go_wp2
      go_ret
      exact Tells.yes (.inl ⟨.inl rfl, .inr rfl⟩) (Only.refl _ _)
    · go_enter Tryz.func85, Tryz.ntmps85
      go_wp2
      go_ret
      exact Tells.no (by unfold hasP; omega) (Only.refl _ _)
  · have e3 : (k == 3) = false := by simpa using hk
    obtain ⟨off, hoff⟩ : ∃ off : Nat, (t = 0 ∧ off = 1) ∨ (t = 1 ∧ off = 0) ∨ (t = 2 ∧ off = 2) := by
      rcases ht with rfl | rfl | rfl
      · exact ⟨1, .inl ⟨rfl, rfl⟩⟩
      · exact ⟨0, .inr (.inl ⟨rfl, rfl⟩)⟩
      · exact ⟨2, .inr (.inr ⟨rfl, rfl⟩)⟩
    have ho2 : off ≤ 2 := by omega
    have ht2 : 0 ≤ t ∧ t ≤ 2 := by omega
    have hall : Hid ((∀ j, j < 5 - off → kAll.getD (off + j) 0 ≠ k) → ¬ hasP t k) := Lib.hid (by
      intro h1 h2
      have a0 := fun hh => h1 0 hh
      have a1 := fun hh => h1 1 hh
      have a2 := fun hh => h1 2 hh
      have a3 := fun hh => h1 3 hh
      have a4 := fun hh => h1 4 hh
      unfold hasP at h2
      rcases hoff with ⟨rfl, rfl⟩ | ⟨rfl, rfl⟩ | ⟨rfl, rfl⟩ <;> simp [kAll] at a0 a1 a2 a3 a4 <;> omega)
    have hyes : Hid (∀ j, j < 5 - off → kAll.getD (off + j) 0 = k → hasP t k) := Lib.hid (by
      intro j hj h2
      unfold hasP
      rcases hoff with ⟨rfl, rfl⟩ | ⟨rfl, rfl⟩ | ⟨rfl, rfl⟩
      · obtain rfl | rfl | rfl | rfl : j = 0 ∨ j = 1 ∨ j = 2 ∨ j = 3 := by omega
        all_goals (simp [kAll] at h2; subst h2; simp)
      · obtain rfl | rfl | rfl | rfl | rfl : j = 0 ∨ j = 1 ∨ j = 2 ∨ j = 3 ∨ j = 4 := by omega
        all_goals (simp [kAll] at h2; subst h2; simp)
      · obtain rfl | rfl | rfl : j = 0 ∨ j = 1 ∨ j = 2 := by omega
        all_goals (simp [kAll] at h2; subst h2; simp))
    have hkd := sx_kinds t off hoff w
    have HKD := Lib.hid hkd
    have Hoff := Lib.hid hoff
    clear hkd hoff ht hk
    go_enter Tryz.func85, Tryz.ntmps85
    go_wp2_with fail
    refine HKD.out.mono ?_
    rintro e w1 ⟨rfl, h1, h2, h3⟩
    have Hc : Hid (∀ j, j < 5 - off → w1.cell? ⟨w.heap.size, off + j, none⟩ = some (.int .i64 (kAll.getD (off + j) 0))) := Lib.hid (fun j hj => by
      rw [cells_of h1]
      have : off + j < kAll.length := by show off + j < 5; omega
      simp [List.getD, List.getElem?_eq_getElem this])
    have HO := Lib.hid h2
    obtain ⟨n, hn⟩ : ∃ n, n = 5 - off := ⟨_, rfl⟩
    rw [← hn] at Hc hall hyes ⊢
    have hn5 : n ≤ 5 := by omega
    obtain ⟨g0, hg0⟩ : ∃ g0, g0 = w.heap.size := ⟨_, rfl⟩
    rw [← hg0] at Hc ⊢
    clear h1 h2 h3 hn HKD hg0
    go_wp2
    go_loop [18] (fun q => ∃ j : Nat, j ≤ n ∧ q = .int .i64 j ∧ Hid (∀ i, i < j → kAll.getD (off + i) 0 ≠ k)) (fun q => n - (intOf q).toNat)
    case atStart => exact ⟨0, Nat.zero_le _, rfl, Lib.hid (fun i hi => absurd hi (Nat.not_lt_zero i))⟩
    case round =>
      obtain ⟨j, hj, rfl, hno⟩ := hrel
      by_cases hlt : j < n
      · have c1 := Hc.out j hlt
        obtain ⟨x, hx⟩ : ∃ x, x = kAll.getD (off + j) 0 := ⟨_, rfl⟩
        rw [← hx] at c1
        have Hx := Lib.hid hx
        clear hx
        by_cases hxk : x = k
        · subst hxk
          have hy := hyes.out j hlt Hx.out.symm
          have Hy := Lib.hid hy
          have d1 : decide (0 ≤ t) = true := decide_eq_true ht2.1
          have d2 : decide (t ≤ 2) = true := decide_eq_true ht2.2
          clear hy
          go_wp2_with fail
          refine (sx_in t _ _ w1).mono ?_
          rintro e w' ⟨rfl, rfl⟩
          rw [d1, d2, Bool.and_true]
          go_wp2
          go_ret
          exact Tells.yes Hy.out HO.out
        · have eb : (x == k) = false := by simpa using hxk
          clear hxk
          go_wp2
          go_round
          case rel => exact ⟨j + 1, by omega, by go_num, Lib.hid (fun i hi => by
            by_cases e : i = j
            · rw [e, ← Hx.out]; simpa using eb
            · exact hno.out i (by omega))⟩
          case measure => simp [intOf] <;> omega
      · obtain rfl : j = n := by omega
        have Hno := Lib.hid (hall.out hno.out)
        go_wp2
        go_ret
        exact Tells.no Hno.out HO.out
/-- May its Qp be? -/
def qpOk (y : Nat → Int) : Prop := if toldB (y 0) (y 48) = true then 0 ≤ y 49 ∧ y 49 ≤ 51 else y 49 = 0
set_option maxRecDepth 100000 in
set_option maxHeartbeats 800000 in
theorem my_qp {mb : Nat} {y : Nat → Int} {X : Nat → Value} {w : World} (hm : BlkIn w mb 483 51 X) (hX : ∀ j, j < 482 → X j = .int .i64 (y j)) :
    Calls Tryz.prog 87 #[.pointer (some ⟨mb, 0, none⟩)] w fun e w' => Tells (qpOk y) w e w' := by
  have ht := sx_told hm (k := y 0) (cbp := y 48) (hX 0 (by decide)) (hX 48 (by decide))
  have c49 : w.cell? ⟨mb, 49, none⟩ = some (.int .i64 (y 49)) := by rw [hm.cell 49 (by decide), hX 49 (by decide)]
  obtain ⟨q, hq⟩ : ∃ q, q = y 49 := ⟨_, rfl⟩
  rw [← hq] at c49
  have Hq := Lib.hid hq
  have HT := Lib.hid ht
  clear ht hm hX hq
  go_enter Tryz.func87, Tryz.ntmps87
  go_wp2_with fail
  refine HT.out.mono ?_
  rintro e w' ⟨rfl, rfl⟩
  cases hb : toldB (y 0) (y 48) with
  | true =>
    have Hb := Lib.hid hb
    clear hb HT
    go_wp2_with fail
    refine (sx_in q _ _ w).mono ?_
    rintro e w' ⟨rfl, rfl⟩
    go_wp2
    go_ret
    exact Tells.of (by unfold qpOk; rw [Hb.out, if_pos rfl, ← Hq.out]; simp) (Only.refl _ _)
  | false =>
    have Hb := Lib.hid hb
    clear hb HT
    by_cases h0 : q = 0
    · subst h0
      go_wp2
      go_ret
      exact Tells.yes (by unfold qpOk; rw [Hb.out, if_neg (by decide), ← Hq.out]) (Only.refl _ _)
    · have e0 : (q == 0) = false := by simpa using h0
      go_wp2
      go_ret
      exact Tells.no (by unfold qpOk; rw [Hb.out, if_neg (by decide), ← Hq.out]; exact h0) (Only.refl _ _)
end Go.Proofs.YtcppbdlmcbjmeaaGreatDoor

namespace Go.Proofs.YtcppbdlmcbjmeaaGreatDoor
open Go.RowKit

theorem fold_set (o : Nat) : ∀ (l : List Value) (k : Nat) (Z : Array Value) (i : Nat), o + k + l.length ≤ Z.size →
    ((l.zipIdx k).foldl (fun cs x => cs.setIfInBounds (o + x.2) x.1) Z)[i]? = if o + k ≤ i ∧ i < o + k + l.length then l[i - (o + k)]? else Z[i]?
  | [], k, Z, i, _ => by
    rw [if_neg (by simp)]
    rfl
  | v :: l, k, Z, i, h => by
    simp only [List.length_cons] at h ⊢
    rw [List.zipIdx_cons, List.foldl_cons, fold_set o l (k + 1) _ i (by simp; omega)]
    by_cases hi : i = o + k
    · subst hi
      rw [if_neg (by omega), if_pos (by omega), Array.getElem?_setIfInBounds]
      simp
      omega
    · by_cases h2 : o + (k + 1) ≤ i ∧ i < o + (k + 1) + l.length
      · rw [if_pos h2, if_pos (by omega), show i - (o + k) = (i - (o + (k + 1))) + 1 by omega]
        simp
      · rw [if_neg h2, if_neg (by omega), Array.getElem?_setIfInBounds, if_neg (by omega)]
/-- A literal of one element that has many cells. -/
theorem fill_whole {f : Nat → Option (Nat × Nat)} {Z XF : Array Value} {n : Nat} (hf : f 0 = some (0, n)) (hX : XF.size = n) (hZ : Z.size = n) : Instr.fill f Z [(0, .agg XF)] = some XF := by
  unfold Instr.fill
  rw [hf]
  show (if XF.size ≠ n || 0 + XF.size > Z.size then none else Instr.fill f (XF.zipIdx.foldl (fun cs x => cs.setIfInBounds (0 + x.2) x.1) Z) []) = _
  rw [if_neg (by simp; omega)]
  unfold Instr.fill
  congr 1
  apply Array.ext_getElem?
  intro i
  rw [← Array.foldl_toList, Array.toList_zipIdx, fold_set 0 XF.toList 0 Z i (by simp; omega)]
  by_cases hi : i < XF.size
  · rw [if_pos (by simp; omega)]
    simp
  · rw [if_neg (by simp; omega), Array.getElem?_eq_none (by omega), Array.getElem?_eq_none (by omega)]
theorem wpList_build1 {P : Program} {w : World} {ops : Array Oper} {rest : List Oper} {o : Oper} {a : Act} {Q : Exit → Act → World → Prop} (hg : o.guard = none) (t : TypeId) (x : Operand) (ho : o.op = .buildSlice t 1 #[(0, x)]) {e : TypeId} {z : Value} {size bytes : Nat} (E : Elt P t e z size bytes) (XF : Array Value) (hx : a.eval x = .agg XF)
    (hsz : size ≤ 1000) (hX : XF.size = size)
    (h : wpList P ops Q rest (a.put o.dst (.slice (some ⟨w.heap.size, 0, none⟩) 1 1)) (w.alloc (.cells XF e))) : wpList P ops Q (o :: rest) a w := by
  refine wpList_plain hg fun K hK => ?_
  obtain ⟨i, hi, hz, hs, hbt⟩ := info_parts E.hi
  unfold Oper.wp execOp
  have hrun : (Instr.buildSlice t 1 #[(0, .agg XF)]).run P w = .ok (.slice (some ⟨w.heap.size, 0, none⟩) 1 1) (w.alloc (.cells XF e)) := by
    have hpos := E.pos
    have hzs := E.zs
    have hfill' : Instr.fill (fun i => some (i * size, size)) ((Array.range size).map (fun x => z.cells[x % z.cells.size]!)) [(0, .agg XF)] = some XF := fill_whole (by simp) hX (by simp)
    by_cases h24 : 16777216 < size
    · exact absurd h24 (by omega)
    simp [Instr.buildSlice, run_underlying E.ht, sizeOf, typeInfo, hi, hs, zeroValue, hz, h24, show ¬ size = 0 by omega]
    simp [hfill', newRow]
  simp only [ho, List.map_toArray, List.map_cons, List.map_nil, hx, Sem.run_bind, hrun, Result.andThen_ok]
  exact hK _ _ h
set_option maxRecDepth 100000 in
theorem eltMb : Elt Tryz.prog 29 51 (.agg Tryz.zeroCells51) 483 3880 := ⟨Tryz.underlying29, by kernel_rfl, by kernel_rfl, by decide⟩
end Go.Proofs.YtcppbdlmcbjmeaaGreatDoor
