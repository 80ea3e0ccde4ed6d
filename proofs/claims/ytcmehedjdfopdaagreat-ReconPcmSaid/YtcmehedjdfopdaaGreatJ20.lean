/-
  The walk over package syntax's mayCoefs. The walk over package syntax's body.
-/
import Derived.Test.YtcmehedjdfopdaaGreatJ19
namespace Go.Proofs.YtcmehedjdfopdaaGreat
open Go.RowKit

/-- The coefficients of a macroblock that has at most one: luma's lowest of all. -/
structure CoefAt (w : World) (mb : Nat) (d : Int) : Prop where
  co : ∀ k, k < 24 → w.rangeAt mb (50 + k * 16) z16
  d0 : w.rangeAt mb 434 ((dcL d).map (Value.int .i64))
  d1 : w.rangeAt mb 450 z16
  d2 : w.rangeAt mb 466 z16
theorem IntSlice.of_range {w : World} {b o cap : Nat} {xs : List Int} (h : w.rangeAt b o (xs.map (Value.int .i64))) : IntSlice w (.slice (some ⟨b, o, none⟩) xs.length cap) xs :=
  ⟨_, _, rfl, .inr ⟨b, o, rfl, fun i hi => h i _ (by simp [List.getElem?_map, List.getD, List.getElem?_eq_getElem hi])⟩⟩
theorem z16_at (i : Nat) (h : i < 16) : z16[i]? = some (.int .i64 0) := by
  unfold z16
  rw [List.getElem?_map, List.getElem?_replicate, if_pos h]
  rfl
theorem CoefAt.zeros {w : World} {b o : Nat} (h : w.rangeAt b o z16) (k n cap : Nat) (hk : k + n ≤ 16) : IntSlice w (.slice (some ⟨b, o + k, none⟩) n cap) (List.replicate n 0) :=
  ⟨_, _, by rw [List.length_replicate], .inr ⟨b, o + k, rfl, fun i hi => by
    rw [List.length_replicate] at hi
    rw [getD_rep0, Nat.add_assoc]
    exact h (k + i) _ (z16_at _ (by omega))⟩⟩
theorem dcL_small (d : Int) (d0 : -200 ≤ d) (d1 : d ≤ 200) : ∀ i, i < (dcL d).length → -32767 ≤ (dcL d).getD i 0 ∧ (dcL d).getD i 0 ≤ 32767 := by
  intro i _
  cases i with
  | zero => simp only [dcL, List.getD_cons_zero]; omega
  | succ i => simp only [dcL, List.getD_cons_succ]; rw [getD_rep0]; decide

set_option maxRecDepth 100000 in
set_option maxHeartbeats 3200000 in
theorem sy_coefs16 (mb : Nat) (d : Int) (w : World) (k0 : w.cell? ⟨mb, 0, none⟩ = some (.int .i64 1)) (k48 : w.cell? ⟨mb, 48, none⟩ = some (.int .i64 0)) (hc : CoefAt w mb d) (d0 : -200 ≤ d) (d1 : d ≤ 200) :
    Calls Tryz.prog 72 #[.pointer (some ⟨mb, 0, none⟩)] w fun e w' => e = .returned (.bool true) ∧ Only [] w w' := by
  have HC := Lib.hid hc
  clear hc
  go_enter Tryz.func72, Tryz.ntmps72
  go_wp2_with fail
  go_region
  go_wp2_with fail
  refine (sy_in _ _ _ (by decide) (by decide) _).mono ?_
  rintro e w' ⟨rfl, rfl⟩
  go_wp2
  go_loopw [42] (fun q wr => ∃ k : Nat, k ≤ 24 ∧ q = .int .i64 k ∧ Only [] w.drew wr) (fun q _ => 24 - (intOf q).toNat)
  case atStart => exact ⟨0, by omega, rfl, Only.refl _ _⟩
  case round =>
    obtain ⟨k, hk, rfl, ho⟩ := hrel
    by_cases hlt : k < 24
    · have hr := range_only (HC.out.co k hlt) ((Only.refl [] w).drew.trans ho) (by simp)
      have hz := CoefAt.zeros hr 0 16 16 (by omega)
      have c0 : wr.cell? ⟨mb, 50 + k * 16, none⟩ = some (.int .i64 0) := hr 0 _ (z16_at 0 (by omega))
      have c1 : wr.cell? ⟨mb, 0, none⟩ = some (.int .i64 1) := ho.cell k0 (by simp)
      have HZ := Lib.hid hz
      have HO := Lib.hid ho
      clear hr hz ho
      by_cases h16 : k < 16
      · go_wp2_with fail
        refine (sy_zero _ 16 _ HZ.out (by omega)).mono ?_
        rintro e w' ⟨rfl, rfl⟩
        go_wp2_with fail
        refine (sy_small _ _ _ HZ.out (by simp) (fun i _ => by rw [getD_rep0]; decide)).mono ?_
        rintro e w' ⟨rfl, rfl⟩
        go_wp2
        go_roundw
        case rel => exact ⟨k + 1, by omega, by go_num, HO.out⟩
        case measure => simp [intOf] <;> omega
      · go_wp2_with fail
        refine (sy_zero _ 16 _ HZ.out (by omega)).mono ?_
        rintro e w' ⟨rfl, rfl⟩
        go_wp2_with fail
        refine (sy_small _ _ _ HZ.out (by simp) (fun i _ => by rw [getD_rep0]; decide)).mono ?_
        rintro e w' ⟨rfl, rfl⟩
        go_wp2
        go_roundw
        case rel => exact ⟨k + 1, by omega, by go_num, HO.out⟩
        case measure => simp [intOf] <;> omega
    · have hk24 : 24 ≤ k := by omega
      have HO0 := Lib.hid ho
      clear ho
      go_wp2
      go_loopw [99] (fun q wr => (q = .int .i64 0 ∧ Only [] w.drew wr) ∨ (q = .int .i64 1 ∧ Only [] w.drew wr) ∨ (q = .int .i64 2 ∧ Only [] w.drew wr) ∨ (q = .int .i64 3 ∧ Only [] w.drew wr)) (fun q _ => 3 - (intOf q).toNat)
      case atStart => exact .inl ⟨rfl, HO0.out⟩
      case round =>
        rcases hrel with ⟨rfl, ho⟩ | ⟨rfl, ho⟩ | ⟨rfl, ho⟩ | ⟨rfl, ho⟩
        · have c1 := ho.cell (w := w.drew) k0 (by simp)
          have hs := IntSlice.of_range (cap := 16) (range_only HC.out.d0 ((Only.refl [] w).drew.trans ho) (by simp))
          rw [dcL_length] at hs
          have HS := Lib.hid hs
          have HO := Lib.hid ho
          clear hs ho
          go_wp2_with fail
          refine (sy_small _ _ _ HS.out (by rw [dcL_length]; decide) (dcL_small d d0 d1)).mono ?_
          rintro e w' ⟨rfl, rfl⟩
          go_wp2
          go_roundw
          case rel => exact .inr (.inl ⟨by go_num, HO.out⟩)
          case measure => simp [intOf] <;> omega
        · have c1 := ho.cell (w := w.drew) k0 (by simp)
          have hr := range_only HC.out.d1 ((Only.refl [] w).drew.trans ho) (by simp)
          have hz := CoefAt.zeros hr 0 16 16 (by omega)
          have hz4 := CoefAt.zeros hr 4 12 12 (by omega)
          have HZ := Lib.hid hz
          have HZ4 := Lib.hid hz4
          have HO := Lib.hid ho
          clear hr hz hz4 ho
          go_wp2_with fail
          refine (sy_zero _ 16 _ HZ.out (by omega)).mono ?_
          rintro e w' ⟨rfl, rfl⟩
          go_wp2_with fail
          refine (sy_zero _ 12 _ HZ4.out (by omega)).mono ?_
          rintro e w' ⟨rfl, rfl⟩
          go_wp2_with fail
          refine (sy_small _ _ _ HZ.out (by simp) (fun i _ => by rw [getD_rep0]; decide)).mono ?_
          rintro e w' ⟨rfl, rfl⟩
          go_wp2
          go_roundw
          case rel => exact .inr (.inr (.inl ⟨by go_num, HO.out⟩))
          case measure => simp [intOf] <;> omega
        · have c1 := ho.cell (w := w.drew) k0 (by simp)
          have hr := range_only HC.out.d2 ((Only.refl [] w).drew.trans ho) (by simp)
          have hz := CoefAt.zeros hr 0 16 16 (by omega)
          have hz4 := CoefAt.zeros hr 4 12 12 (by omega)
          have HZ := Lib.hid hz
          have HZ4 := Lib.hid hz4
          have HO := Lib.hid ho
          clear hr hz hz4 ho
          go_wp2_with fail
          refine (sy_zero _ 16 _ HZ.out (by omega)).mono ?_
          rintro e w' ⟨rfl, rfl⟩
          go_wp2_with fail
          refine (sy_zero _ 12 _ HZ4.out (by omega)).mono ?_
          rintro e w' ⟨rfl, rfl⟩
          go_wp2_with fail
          refine (sy_small _ _ _ HZ.out (by simp) (fun i _ => by rw [getD_rep0]; decide)).mono ?_
          rintro e w' ⟨rfl, rfl⟩
          go_wp2
          go_roundw
          case rel => exact .inr (.inr (.inr ⟨by go_num, HO.out⟩))
          case measure => simp [intOf] <;> omega
        · have HO := Lib.hid ((Only.refl [] w).drew.trans ho)
          clear ho
          go_wp2
          go_ret
          exact ⟨rfl, HO.out⟩
set_option maxRecDepth 100000 in
set_option maxHeartbeats 3200000 in
theorem sy_coefs0 (mb : Nat) (kd : Int) (w : World) (k0 : w.cell? ⟨mb, 0, none⟩ = some (.int .i64 kd)) (hk : ((kd : Int) == 1) = false) (k48 : w.cell? ⟨mb, 48, none⟩ = some (.int .i64 0)) (hc : CoefAt w mb 0) :
    Calls Tryz.prog 72 #[.pointer (some ⟨mb, 0, none⟩)] w fun e w' => e = .returned (.bool true) ∧ Only [] w w' := by
  have HC := Lib.hid hc
  clear hc
  go_enter Tryz.func72, Tryz.ntmps72
  go_wp2_with fail
  go_region
  go_wp2_with fail
  refine (sy_in _ _ _ (by decide) (by decide) _).mono ?_
  rintro e w' ⟨rfl, rfl⟩
  go_wp2
  go_loopw [42] (fun q wr => ∃ k : Nat, k ≤ 24 ∧ q = .int .i64 k ∧ Only [] w.drew wr) (fun q _ => 24 - (intOf q).toNat)
  case atStart => exact ⟨0, by omega, rfl, Only.refl _ _⟩
  case round =>
    obtain ⟨k, hk, rfl, ho⟩ := hrel
    by_cases hlt : k < 24
    · have hr := range_only (HC.out.co k hlt) ((Only.refl [] w).drew.trans ho) (by simp)
      have hz := CoefAt.zeros hr 0 16 16 (by omega)
      have c0 : wr.cell? ⟨mb, 50 + k * 16, none⟩ = some (.int .i64 0) := hr 0 _ (z16_at 0 (by omega))
      have c1 : wr.cell? ⟨mb, 0, none⟩ = some (.int .i64 kd) := ho.cell k0 (by simp)
      have HZ := Lib.hid hz
      have HO := Lib.hid ho
      clear hr hz ho
      by_cases h16 : k < 16
      · go_wp2_with fail
        refine (sy_zero _ 16 _ HZ.out (by omega)).mono ?_
        rintro e w' ⟨rfl, rfl⟩
        go_wp2_with fail
        refine (sy_small _ _ _ HZ.out (by simp) (fun i _ => by rw [getD_rep0]; decide)).mono ?_
        rintro e w' ⟨rfl, rfl⟩
        go_wp2
        go_roundw
        case rel => exact ⟨k + 1, by omega, by go_num, HO.out⟩
        case measure => simp [intOf] <;> omega
      · go_wp2_with fail
        refine (sy_zero _ 16 _ HZ.out (by omega)).mono ?_
        rintro e w' ⟨rfl, rfl⟩
        go_wp2_with fail
        refine (sy_small _ _ _ HZ.out (by simp) (fun i _ => by rw [getD_rep0]; decide)).mono ?_
        rintro e w' ⟨rfl, rfl⟩
        go_wp2
        go_roundw
        case rel => exact ⟨k + 1, by omega, by go_num, HO.out⟩
        case measure => simp [intOf] <;> omega
    · have hk24 : 24 ≤ k := by omega
      have HO0 := Lib.hid ho
      clear ho
      go_wp2
      go_loopw [99] (fun q wr => (q = .int .i64 0 ∧ Only [] w.drew wr) ∨ (q = .int .i64 1 ∧ Only [] w.drew wr) ∨ (q = .int .i64 2 ∧ Only [] w.drew wr) ∨ (q = .int .i64 3 ∧ Only [] w.drew wr)) (fun q _ => 3 - (intOf q).toNat)
      case atStart => exact .inl ⟨rfl, HO0.out⟩
      case round =>
        rcases hrel with ⟨rfl, ho⟩ | ⟨rfl, ho⟩ | ⟨rfl, ho⟩ | ⟨rfl, ho⟩
        · have c1 := ho.cell (w := w.drew) k0 (by simp)
          have hr := range_only HC.out.d0 ((Only.refl [] w).drew.trans ho) (by simp)
          have hz := CoefAt.zeros (o := 434) hr 0 16 16 (by omega)
          have HZ := Lib.hid hz
          have HO := Lib.hid ho
          clear hr hz ho
          go_wp2_with fail
          refine (sy_zero _ 16 _ HZ.out (by omega)).mono ?_
          rintro e w' ⟨rfl, rfl⟩
          go_wp2_with fail
          refine (sy_small _ _ _ HZ.out (by simp) (fun i _ => by rw [getD_rep0]; decide)).mono ?_
          rintro e w' ⟨rfl, rfl⟩
          go_wp2
          go_roundw
          case rel => exact .inr (.inl ⟨by go_num, HO.out⟩)
          case measure => simp [intOf] <;> omega
        · have c1 := ho.cell (w := w.drew) k0 (by simp)
          have hr := range_only HC.out.d1 ((Only.refl [] w).drew.trans ho) (by simp)
          have hz := CoefAt.zeros hr 0 16 16 (by omega)
          have hz4 := CoefAt.zeros hr 4 12 12 (by omega)
          have HZ := Lib.hid hz
          have HZ4 := Lib.hid hz4
          have HO := Lib.hid ho
          clear hr hz hz4 ho
          go_wp2_with fail
          refine (sy_zero _ 16 _ HZ.out (by omega)).mono ?_
          rintro e w' ⟨rfl, rfl⟩
          go_wp2_with fail
          refine (sy_zero _ 12 _ HZ4.out (by omega)).mono ?_
          rintro e w' ⟨rfl, rfl⟩
          go_wp2_with fail
          refine (sy_small _ _ _ HZ.out (by simp) (fun i _ => by rw [getD_rep0]; decide)).mono ?_
          rintro e w' ⟨rfl, rfl⟩
          go_wp2
          go_roundw
          case rel => exact .inr (.inr (.inl ⟨by go_num, HO.out⟩))
          case measure => simp [intOf] <;> omega
        · have c1 := ho.cell (w := w.drew) k0 (by simp)
          have hr := range_only HC.out.d2 ((Only.refl [] w).drew.trans ho) (by simp)
          have hz := CoefAt.zeros hr 0 16 16 (by omega)
          have hz4 := CoefAt.zeros hr 4 12 12 (by omega)
          have HZ := Lib.hid hz
          have HZ4 := Lib.hid hz4
          have HO := Lib.hid ho
          clear hr hz hz4 ho
          go_wp2_with fail
          refine (sy_zero _ 16 _ HZ.out (by omega)).mono ?_
          rintro e w' ⟨rfl, rfl⟩
          go_wp2_with fail
          refine (sy_zero _ 12 _ HZ4.out (by omega)).mono ?_
          rintro e w' ⟨rfl, rfl⟩
          go_wp2_with fail
          refine (sy_small _ _ _ HZ.out (by simp) (fun i _ => by rw [getD_rep0]; decide)).mono ?_
          rintro e w' ⟨rfl, rfl⟩
          go_wp2
          go_roundw
          case rel => exact .inr (.inr (.inr ⟨by go_num, HO.out⟩))
          case measure => simp [intOf] <;> omega
        · have HO := Lib.hid ((Only.refl [] w).drew.trans ho)
          clear ho
          go_wp2
          go_ret
          exact ⟨rfl, HO.out⟩
end Go.Proofs.YtcmehedjdfopdaaGreat

namespace Go.Proofs.YtcmehedjdfopdaaGreat
open Go.RowKit

/-- A macroblock that is drawn within its picture: what is looked at before. -/
structure MbAt (w : World) (mb : Nat) (kd whole chroma qp d : Int) (pcm : Value) : Prop where
  k0 : w.cell? ⟨mb, 0, none⟩ = some (.int .i64 kd)
  k1 : w.cell? ⟨mb, 1, none⟩ = some (.int .i64 0)
  k18 : w.cell? ⟨mb, 18, none⟩ = some (.int .i64 whole)
  k19 : w.cell? ⟨mb, 19, none⟩ = some (.int .i64 chroma)
  k48 : w.cell? ⟨mb, 48, none⟩ = some (.int .i64 0)
  k49 : w.cell? ⟨mb, 49, none⟩ = some (.int .i64 qp)
  k482 : w.cell? ⟨mb, 482, none⟩ = some pcm
  cf : CoefAt w mb d
theorem CoefAt.only {w w' : World} {mb : Nat} {d : Int} {S : List Nat} (h : CoefAt w mb d) (ho : Only S w w') (hs : mb ∉ S) : CoefAt w' mb d :=
  ⟨fun k hk => range_only (h.co k hk) ho hs, range_only h.d0 ho hs, range_only h.d1 ho hs, range_only h.d2 ho hs⟩
theorem MbAt.only {w w' : World} {mb : Nat} {kd whole chroma qp d : Int} {pcm : Value} {S : List Nat} (h : MbAt w mb kd whole chroma qp d pcm) (ho : Only S w w') (hs : mb ∉ S) : MbAt w' mb kd whole chroma qp d pcm :=
  ⟨ho.cell h.k0 hs, ho.cell h.k1 hs, ho.cell h.k18 hs, ho.cell h.k19 hs, ho.cell h.k48 hs, ho.cell h.k49 hs, ho.cell h.k482 hs, h.cf.only ho hs⟩

set_option maxRecDepth 100000 in
set_option maxHeartbeats 1600000 in
theorem sy_body16 (mb : Nat) (whole chroma qp d : Int) (w : World) (h : MbAt w mb 1 whole chroma qp d (.slice none 0 0)) (hm : w.rangeAt mb 2 z16) (q0 : 0 ≤ qp) (q1 : qp ≤ 51) (d0 : -200 ≤ d) (d1 : d ≤ 200) (w0 : 0 ≤ whole) (w1 : whole ≤ 3) (c0 : 0 ≤ chroma) (c1 : chroma ≤ 3) :
    Calls Tryz.prog 45 #[.pointer (some ⟨mb, 0, none⟩), .int .i64 2] w fun e w' => e = .returned (.bool true) ∧ Only [] w w' := by
  have H := Lib.hid h
  have HM := Lib.hid hm
  have k0 := h.k0
  clear h hm
  go_enter Tryz.func45, Tryz.ntmps45
  go_wp2_with fail
  refine (sy_hasI 1 (by decide) _).mono ?_
  rintro e w1' ⟨rfl, o1⟩
  have O1 := Lib.hid o1
  clear o1
  go_wp2_with fail
  refine (sy_idle16 mb _ (H.out.only O1.out (by simp)).k0 (H.out.only O1.out (by simp)).k1 (range_only HM.out O1.out (by simp)) (H.out.only O1.out (by simp)).k482).mono ?_
  rintro e w' ⟨rfl, rfl⟩
  go_wp2_with fail
  refine (sy_qp16 mb qp _ (H.out.only O1.out (by simp)).k0 (H.out.only O1.out (by simp)).k49 q0 q1).mono ?_
  rintro e w' ⟨rfl, rfl⟩
  go_wp2_with fail
  refine (sy_coefs16 mb d _ (H.out.only O1.out (by simp)).k0 (H.out.only O1.out (by simp)).k48 (H.out.only O1.out (by simp)).cf d0 d1).mono ?_
  rintro e w2' ⟨rfl, o2⟩
  have O2 := Lib.hid (O1.out.trans o2)
  have e0 := (H.out.only O2.out (by simp)).k0
  have e1 := (H.out.only O2.out (by simp)).k18
  have e2 := (H.out.only O2.out (by simp)).k19
  clear o2 k0
  go_wp2_with fail
  refine (sy_in _ _ _ w0 w1 _).mono ?_
  rintro e w' ⟨rfl, rfl⟩
  go_wp2_with fail
  refine (sy_in _ _ _ c0 c1 _).mono ?_
  rintro e w' ⟨rfl, rfl⟩
  go_wp2
  go_ret
  exact ⟨rfl, O2.out⟩

set_option maxRecDepth 100000 in
set_option maxHeartbeats 1600000 in
theorem sy_bodyP (mb : Nat) (ao : Option Addr) (cap : Nat) (w : World) (h : MbAt w mb 2 0 0 0 0 (.slice ao 384 cap)) (hm : w.rangeAt mb 2 z16) :
    Calls Tryz.prog 45 #[.pointer (some ⟨mb, 0, none⟩), .int .i64 2] w fun e w' => e = .returned (.bool true) ∧ Only [] w w' := by
  have H := Lib.hid h
  have HM := Lib.hid hm
  have k0 := h.k0
  clear h hm
  go_enter Tryz.func45, Tryz.ntmps45
  go_wp2_with fail
  refine (sy_hasI 2 (by decide) _).mono ?_
  rintro e w1' ⟨rfl, o1⟩
  have O1 := Lib.hid o1
  clear o1
  go_wp2_with fail
  refine (sy_idleP mb _ (H.out.only O1.out (by simp)).k0 (H.out.only O1.out (by simp)).k1 (range_only HM.out O1.out (by simp)) (H.out.only O1.out (by simp)).k18 (H.out.only O1.out (by simp)).k19).mono ?_
  rintro e w' ⟨rfl, rfl⟩
  go_wp2_with fail
  refine (sy_qp0 mb 2 _ (H.out.only O1.out (by simp)).k0 (by decide) (H.out.only O1.out (by simp)).k48 (H.out.only O1.out (by simp)).k49).mono ?_
  rintro e w' ⟨rfl, rfl⟩
  go_wp2_with fail
  refine (sy_coefs0 mb 2 _ (H.out.only O1.out (by simp)).k0 (by decide) (H.out.only O1.out (by simp)).k48 (H.out.only O1.out (by simp)).cf).mono ?_
  rintro e w2' ⟨rfl, o2⟩
  have O2 := Lib.hid (O1.out.trans o2)
  have e0 := (H.out.only O2.out (by simp)).k0
  have e1 := (H.out.only O2.out (by simp)).k48
  have e2 := (H.out.only O2.out (by simp)).k482
  clear o2 k0
  go_wp2
  go_ret
  exact ⟨rfl, O2.out⟩

set_option maxRecDepth 100000 in
set_option maxHeartbeats 1600000 in
theorem sy_bodyS (mb : Nat) (t : Int) (ht : t = 0 ∨ t = 1) (w : World) (h : MbAt w mb 3 0 0 0 0 (.slice none 0 0)) (hm : w.rangeAt mb 2 z16) :
    Calls Tryz.prog 45 #[.pointer (some ⟨mb, 0, none⟩), .int .i64 t] w fun e w' => e = .returned (.bool true) ∧ Only [] w w' := by
  have H := Lib.hid h
  have HM := Lib.hid hm
  have k0 := h.k0
  have HT := Lib.hid ht
  clear h hm ht
  go_enter Tryz.func45, Tryz.ntmps45
  go_wp2_with fail
  refine (sy_hasSkip t HT.out _).mono ?_
  rintro e w' ⟨rfl, rfl⟩
  go_wp2_with fail
  refine (sy_idleS mb _ H.out.k0 H.out.k1 HM.out H.out.k18 H.out.k19 H.out.k482).mono ?_
  rintro e w' ⟨rfl, rfl⟩
  go_wp2_with fail
  refine (sy_qp0 mb 3 _ H.out.k0 (by decide) H.out.k48 H.out.k49).mono ?_
  rintro e w' ⟨rfl, rfl⟩
  go_wp2_with fail
  refine (sy_coefs0 mb 3 _ H.out.k0 (by decide) H.out.k48 H.out.cf).mono ?_
  rintro e w2' ⟨rfl, o2⟩
  have O2 := Lib.hid o2
  have e0 := (H.out.only O2.out (by simp)).k0
  have e1 := (H.out.only O2.out (by simp)).k48
  clear o2 k0
  go_wp2
  go_ret
  exact ⟨rfl, O2.out⟩

set_option maxRecDepth 100000 in
set_option maxHeartbeats 1600000 in
theorem sy_body4 (mb : Nat) (chroma : Int) (f : Nat → Int) (w : World) (h : MbAt w mb 0 0 chroma 0 0 (.slice none 0 0)) (hm : w.rangeAt mb 2 (((List.range 16).map f).map (Value.int .i64))) (hf : ∀ i, i < 16 → 0 ≤ f i ∧ f i ≤ 8) (c0 : 0 ≤ chroma) (c1 : chroma ≤ 3) :
    Calls Tryz.prog 45 #[.pointer (some ⟨mb, 0, none⟩), .int .i64 2] w fun e w' => e = .returned (.bool true) ∧ Only [] w w' := by
  have H := Lib.hid h
  have HM := Lib.hid hm
  have HF := Lib.hid hf
  have k0 := h.k0
  clear h hm hf
  go_enter Tryz.func45, Tryz.ntmps45
  go_wp2_with fail
  refine (sy_hasI 0 (by decide) _).mono ?_
  rintro e w1' ⟨rfl, o1⟩
  have O1 := Lib.hid o1
  clear o1
  go_wp2_with fail
  refine (sy_idle4 mb _ (H.out.only O1.out (by simp)).k0 (H.out.only O1.out (by simp)).k1 (H.out.only O1.out (by simp)).k18 (H.out.only O1.out (by simp)).k482).mono ?_
  rintro e w' ⟨rfl, rfl⟩
  go_wp2_with fail
  refine (sy_qp0 mb 0 _ (H.out.only O1.out (by simp)).k0 (by decide) (H.out.only O1.out (by simp)).k48 (H.out.only O1.out (by simp)).k49).mono ?_
  rintro e w' ⟨rfl, rfl⟩
  go_wp2_with fail
  refine (sy_coefs0 mb 0 _ (H.out.only O1.out (by simp)).k0 (by decide) (H.out.only O1.out (by simp)).k48 (H.out.only O1.out (by simp)).cf).mono ?_
  rintro e w2' ⟨rfl, o2⟩
  have O2 := Lib.hid (O1.out.trans o2)
  have e0 := (H.out.only O2.out (by simp)).k0
  have e2 := (H.out.only O2.out (by simp)).k19
  have hr := range_only HM.out O2.out (by simp)
  have HR := Lib.hid hr
  obtain ⟨Ms, hMs⟩ : ∃ Ms, Ms = ((List.range 16).map f).map (Value.int .i64) := ⟨_, rfl⟩
  have hr2 : w2'.rangeAt mb 2 Ms := by rw [hMs]; exact hr
  have hla : (Tryz.prog.info? 36).map (·.size) = some Ms.length := by rw [hMs]; simp only [List.length_map, List.length_range]; kernel_rfl
  have hix : ∀ (k : Nat), k < 16 → ∀ w : World, (Instr.index 36 (.agg Ms.toArray) (.int .i64 k)).run Tryz.prog w = .ok (.int .i64 (f k)) w := by
    intro k hk w
    have := run_index_ints (P := Tryz.prog) 36 3 16 ((List.range 16).map f) k w Tryz.underlying36 Tryz.underlying3 (by kernel_rfl) (by simp) hk
    rw [show ((List.range 16).map f).getD k 0 = f k by simp [List.getD, List.getElem?_map, List.getElem?_range hk]] at this
    rw [hMs]
    exact this
  have HIX := Lib.hid hix
  have HL := Lib.hid hla
  have HR2 := Lib.hid hr2
  clear o2 k0 hr hMs hla hix hr2
  go_wp2_with (with_reducible refine wpList_load_mid rfl _ _ rfl mb 2 rfl Ms _ HR2.out Tryz.underlying36 rfl HL.out ?_)
  go_wp2
  generalize Ms.toArray = Ma at *
  go_loop [39] (fun q => ∃ k : Nat, k ≤ 16 ∧ q = .int .i64 k) (fun q => 16 - (intOf q).toNat)
  case atStart => exact ⟨0, by omega, rfl⟩
  case round =>
    obtain ⟨k, hk, rfl⟩ := hrel
    by_cases hlt : k < 16
    · have hi := HIX.out k hlt w2'
      obtain ⟨x, hx⟩ : ∃ x, x = f k := ⟨_, rfl⟩
      obtain ⟨r0, r1⟩ := HF.out k hlt
      rw [← hx] at hi r0 r1
      clear hx
      go_wp2_with fail
      refine (sy_in _ _ _ r0 r1 _).mono ?_
      rintro e w' ⟨rfl, rfl⟩
      go_wp2
      go_round
      case rel => exact ⟨k + 1, by omega, by go_num⟩
      case measure => simp [intOf] <;> omega
    · obtain rfl : k = 16 := by omega
      go_wp2_with fail
      refine (sy_in _ _ _ c0 c1 _).mono ?_
      rintro e w' ⟨rfl, rfl⟩
      go_wp2
      go_ret
      exact ⟨rfl, O2.out⟩
end Go.Proofs.YtcmehedjdfopdaaGreat
