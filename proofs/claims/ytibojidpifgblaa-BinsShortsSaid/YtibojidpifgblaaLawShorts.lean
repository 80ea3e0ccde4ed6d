/-
  BinsShorts and BinsSigns: the walks.
-/
import Derived.Test.YtibojidpifgblaaLaw6Awake
import Derived.Test.YtibojidpifgblaaBinsLaws
import Derived.Lib.Strings
namespace Go.Proofs.Ytibojidpifgblaa
open Go.RowKit

theorem onesL_at (x m i : Nat) (h : i < (onesL x m).length) : (onesL x m)[i] = if i < x then 49 else 48 := by
  have e : (onesL x m)[i]? = some (if i < x then 49 else 48) := by
    by_cases hxm : x < m
    · have e1 : onesL x m = List.replicate x 49 ++ [48] := by simp [onesL, hxm]
      rw [e1] at h ⊢
      rw [List.getElem?_append]
      simp only [List.length_append, List.length_replicate, List.length_singleton] at h
      by_cases hi : i < x
      · simp [hi]
      · have : i - x = 0 := by omega
        simp [hi, this]
    · have e1 : onesL x m = List.replicate x 49 := by simp [onesL, hxm]
      rw [e1] at h ⊢
      simp only [List.length_replicate] at h
      simp [h]
  exact (List.getElem?_eq_some_iff.1 e).2
theorem strOfNums_get (xs : List Int) (i : Nat) (h : i < (strOfNums xs).size) (h' : i < xs.length) : ((strOfNums xs)[i]'h).toNat = (UInt8.ofNat (xs[i]).toNat).toNat := by
  show (((strOfNums xs).data)[i]'h).toNat = _
  simp [strOfNums]

set_option maxRecDepth 100000 in
set_option maxHeartbeats 1600000 in
theorem law_shorts (el v most : Int) (w : World) :
    Calls Try.prog 5 #[.int .i64 el, .int .i64 v, .int .i64 most] w fun e w' => e = .returned (.bool true) ∧ Only [] w w' := by
  obtain ⟨m, hm, hm1⟩ := u64mod most 63 (by omega) (by omega)
  replace hm : wrap64 ((IntKind.u64.wrap most).tmod 63) = (m : Int) := hm
  obtain ⟨j, hj, hj1⟩ := u64rem el 9 (by omega)
  replace hj : (IntKind.u64.wrap el).tmod 9 = (j : Int) := hj
  obtain ⟨x, hx, hx1⟩ := u64mod v (m + 2) (by omega) (by omega)
  replace hx : wrap64 ((IntKind.u64.wrap v).tmod (1 + (m : Int) + 1)) = (x : Int) := by
    rw [show 1 + (m : Int) + 1 = ((m + 2 : Nat) : Int) by omega]; exact hx
  obtain ⟨kd, hkd, hk2⟩ : ∃ kd : Int, (∀ h, ([.int .i64 1, .int .i64 3, .int .i64 4, .int .i64 5, .int .i64 6, .int .i64 7, .int .i64 8, .int .i64 11, .int .i64 12] : List Value)[j]'h = .int .i64 kd) ∧ kindOf kd = 2 := by
    have : ∀ i, i < 9 → kindOf (kindShorts.getD i 0) = 2 := by decide
    refine ⟨kindShorts.getD j 0, ?_, this j hj1⟩
    intro h
    match j, hj1 with
    | 0, _ => rfl | 1, _ => rfl | 2, _ => rfl | 3, _ => rfl | 4, _ => rfl | 5, _ => rfl | 6, _ => rfl | 7, _ => rfl | 8, _ => rfl
    | n + 9, h => omega
  have hmay : mayOf (kindOf kd) x (1 + (m : Int)) = true := by rw [hk2]; simp [mayOf]; omega
  have e1 : bitsL kd x (1 + (m : Int)) = onesL x (m + 1) := by
    unfold bitsL
    rw [if_pos hmay, hk2]
    show onesL (x : Int).toNat (1 + (m : Int)).toNat = _
    rw [show (1 + (m : Int)).toNat = m + 1 by omega, Int.toNat_natCast]
  have e2 : bitsE kd x (1 + (m : Int)) = 0 := by unfold bitsE; rw [if_pos hmay]
  have c1 := fun w => bits_any kd x (1 + (m : Int)) w
  rw [e1, e2] at c1
  have e3 : bitsE 8 (1 + (m : Int) + 1) (1 + (m : Int)) = 600 := by
    unfold bitsE
    rw [if_neg]
    rw [show kindOf 8 = 2 by decide]
    simp [mayOf]
    omega
  have c2 := fun w => bits_any 8 (1 + (m : Int) + 1) (1 + (m : Int)) w
  rw [e3] at c2
  have c3 := fun w => bits_lit 8 0 64 [] 600 ⟨#[]⟩ (by decide) (by decide) rfl w
  have hs : (strOfNums (onesL x (m + 1))).size = min (x + 1) (m + 1) := by rw [strOfNums_size, onesL_length _ _ (by omega)]
  have hb : ∀ i (h : i < (strOfNums (onesL x (m + 1))).size), (((strOfNums (onesL x (m + 1)))[i]'h).toNat : Int) = if i < x then 49 else 48 := by
    intro i h
    have h' : i < (onesL x (m + 1)).length := by rw [← strOfNums_size]; exact h
    rw [strOfNums_get _ _ h h', onesL_at]
    split <;> rfl
  generalize strOfNums (onesL x (m + 1)) = s at *
  generalize strOfNums (bitsL 8 (1 + (m : Int) + 1) (1 + (m : Int))) = s2 at *
  have C1 := Lib.hid c1
  have C2 := Lib.hid c2
  have C3 := Lib.hid c3
  have Hb := Lib.hid hb
  have Hs := Lib.hid hs
  have hs1 : s.size ≤ x + 1 := by omega
  have hs2 : s.size ≤ m + 1 := by omega
  have hs3 : x ≤ s.size := by omega
  clear c1 c2 c3 hb e1 e2 e3 hmay hs
  go_enter Try.func5, Try.ntmps5
  go_wp2_with fail
  refine (awake6 _).mono ?_
  rintro e w1 ⟨rfl, h1⟩
  have H1 := Lib.hid h1
  clear h1
  go_wp2_with fail
  refine (C1.out _).mono ?_
  rintro e w2 ⟨rfl, h2⟩
  have H2 := Lib.hid (((H1.out).alloc _).trans h2)
  clear h2
  go_wp2
  go_loop [12, 13] (fun o i => ∃ k : Nat, k ≤ s.size ∧ i = .int .i64 k ∧ ∃ c : Nat, o = .int .i64 c ∧ Hid (c = min k x) ∧ c ≤ k) (fun _ i => s.size - (intOf i).toNat)
  case atStart => exact ⟨0, Nat.zero_le _, rfl, 0, rfl, Lib.hid (by simp), by simp⟩
  case round =>
    obtain ⟨k, hk, rfl, c, rfl, hc, hck⟩ := hrel
    by_cases hlt : k < s.size
    · by_cases hkx : k < x
      · have hbk := Hb.out k hlt
        rw [if_pos hkx] at hbk
        go_wp2
        go_round
        case rel => exact ⟨k + 1, by omega, by go_num, c + 1, by go_num, Lib.hid (by have := hc.out; omega), by omega⟩
        case measure => simp [intOf] <;> omega
      · have hbk := Hb.out k hlt
        rw [if_neg hkx] at hbk
        go_wp2
        go_round
        case rel => exact ⟨k + 1, by omega, by go_num, c, rfl, Lib.hid (by have := hc.out; omega), by omega⟩
        case measure => simp [intOf] <;> omega
    · obtain rfl : k = s.size := by omega
      have hcx : c = x := by have := hc.out; omega
      subst hcx
      clear hc
      go_wp2_with fail
      refine (C2.out _).mono ?_
      rintro e w3 ⟨rfl, h3⟩
      have H3 := Lib.hid ((H2.out).trans h3)
      clear h3
      go_wp2_with fail
      refine (C3.out _).mono ?_
      rintro e w4 ⟨rfl, h4⟩
      have H4 := Lib.hid ((H3.out).trans h4)
      clear h4
      by_cases hxm : c + 1 ≤ m + 1
      · have hsz : (s.size : Int) = (c : Int) + 1 := by have := Hs.out; omega
        go_wp2_with (first | (go_at_call 10; refine (num_any _ _).mono ?_; rintro e w' ⟨rfl, rfl⟩))
        go_ways
        all_goals
          go_ret
          exact ⟨rfl, H4.out⟩
      · have hsz : (s.size : Int) = 1 + (m : Int) := by have := Hs.out; omega
        go_wp2_with (first | (go_at_call 10; refine (num_any _ _).mono ?_; rintro e w' ⟨rfl, rfl⟩))
        go_ways
        all_goals
          go_ret
          exact ⟨rfl, H4.out⟩

theorem sign_strings (G : List Int) (b : Int) (hb : 0 ≤ b ∧ b < 256) :
    (strOfNums (G ++ [b])).size = G.length + 1 ∧ (strOfNums (G ++ [b])).extract 0 G.length = strOfNums G ∧
    ∀ h, (((strOfNums (G ++ [b]))[G.length]'h).toNat : Int) = b := by
  refine ⟨by rw [strOfNums_size]; simp, ?_, ?_⟩
  · apply Go.WideShapes.bytes_inj
    rw [Lib.extract_data, strOfNums_data, strOfNums_data]
    simp
  · intro h
    rw [strOfNums_get _ _ h (by simp)]
    simp
    omega

set_option maxRecDepth 100000 in
set_option maxHeartbeats 1600000 in
theorem law_signs (v el : Int) (w : World) :
    Calls Try.prog 6 #[.int .i64 v, .int .i64 el] w fun e w' => e = .returned (.bool true) ∧ Only [] w w' := by
  obtain ⟨j, hj, hj1⟩ := u64rem el 3 (by omega)
  replace hj : (IntKind.u64.wrap el).tmod 3 = (j : Int) := hj
  obtain ⟨kd, hkd, hk3⟩ : ∃ kd : Int, (∀ h, ([.int .i64 9, .int .i64 10, .int .i64 13] : List Value)[j]'h = .int .i64 kd) ∧ kindOf kd = 3 := by
    have : ∀ i, i < 3 → kindOf (kindSigneds.getD i 0) = 3 := by decide
    refine ⟨kindSigneds.getD j 0, ?_, this j hj1⟩
    intro h
    match j, hj1 with
    | 0, _ => rfl | 1, _ => rfl | 2, _ => rfl
    | n + 3, h => omega
  obtain ⟨q, hq⟩ : ∃ q, q = v.tmod 32768 := ⟨_, rfl⟩
  have hq1 : -32767 ≤ q ∧ q ≤ 32767 := by rw [hq, tmod_eq_if]; split <;> omega
  have hm1 : mayOf (kindOf kd) q 0 = true := by rw [hk3]; simp [mayOf]; omega
  have hm2 : mayOf (kindOf kd) (-q) 0 = true := by rw [hk3]; simp [mayOf]; omega
  have hm3 : ¬ mayOf (kindOf kd) 32768 0 = true := by rw [hk3]; decide
  have c1 := fun w => bits_any kd q 0 w
  have c2 := fun w => bits_any kd (-q) 0 w
  have c3 := fun w => bits_any kd 32768 0 w
  have E1 : bitsE kd q 0 = 0 := by unfold bitsE; rw [if_pos hm1]
  have E2 : bitsE kd (-q) 0 = 0 := by unfold bitsE; rw [if_pos hm2]
  have E3 : bitsE kd 32768 0 = 600 := by unfold bitsE; rw [if_neg hm3]
  have B1 : bitsL kd q 0 = greatL q.natAbs 9 3 ++ signL q := by unfold bitsL; rw [if_pos hm1, hk3]; rfl
  have B2 : bitsL kd (-q) 0 = greatL q.natAbs 9 3 ++ signL (-q) := by
    unfold bitsL
    rw [if_pos hm2, hk3]
    show greatL (-q).natAbs 9 3 ++ signL (-q) = _
    rw [Int.natAbs_neg]
  rw [E1, B1] at c1
  rw [E2, B2] at c2
  rw [E3] at c3
  generalize strOfNums (bitsL kd 32768 0) = s3 at *
  obtain ⟨q0, q1⟩ := hq1
  clear hm1 hm2 hm3 E1 E2 E3 B1 B2
  have Hq := Lib.hid hq
  replace hq : v.tmod 32768 = q := hq.symm
  rcases (show 0 < q ∨ q < 0 ∨ q = 0 by omega) with hs | hs | hs
  · have s1 : signL q = [97] := by unfold signL; rw [if_pos hs]
    have s2 : signL (-q) = [98] := by unfold signL; rw [if_neg (by omega), if_pos (by omega)]
    rw [s1] at c1
    rw [s2] at c2
    have hGl := greatL_length q.natAbs 9 3
    generalize greatL q.natAbs 9 3 = G at *
    obtain ⟨z1, x1, y1⟩ := sign_strings G 97 (by omega)
    obtain ⟨z2, x2, y2⟩ := sign_strings G 98 (by omega)
    generalize strOfNums (G ++ [97]) = s at *
    generalize strOfNums (G ++ [98]) = t at *
    generalize strOfNums G = u at *
    have hqn : (q == 0) = false := by simp; omega
    obtain ⟨L, hL⟩ : ∃ L, L = G.length := ⟨_, rfl⟩
    rw [← hL] at z1 z2 x1 x2 hGl
    have y1' : ∀ h, ((s[L]'h).toNat : Int) = 97 := by subst hL; exact y1
    have y2' : ∀ h, ((t[L]'h).toNat : Int) = 98 := by subst hL; exact y2
    have ne1 : s.toList.isEmpty = false := by
      rw [ByteArray.toList_eq]
      cases e : s.data.toList with
      | nil => have : s.size = 0 := by rw [← ByteArray.size_data, ← Array.length_toList, e]; rfl
               omega
      | cons a l => rfl
    clear y1 y2 hL s1 s2
    have C1 := Lib.hid c1
    have C2 := Lib.hid c2
    have C3 := Lib.hid c3
    clear c1 c2 c3
    go_enter Try.func6, Try.ntmps6
    go_wp2_with fail
    refine (awake6 _).mono ?_
    rintro e w1 ⟨rfl, h1⟩
    have H1 := Lib.hid h1
    clear h1
    go_wp2_with fail
    refine (C1.out _).mono ?_
    rintro e w2 ⟨rfl, h2⟩
    have H2 := Lib.hid (((H1.out).alloc _).trans h2)
    clear h2
    go_wp2_with fail
    refine (C2.out _).mono ?_
    rintro e w3 ⟨rfl, h3⟩
    have H3 := Lib.hid ((H2.out).trans h3)
    clear h3
    go_wp2_with fail
    refine (C3.out _).mono ?_
    rintro e w4 ⟨rfl, h4⟩
    have H4 := Lib.hid ((H3.out).trans h4)
    clear h4
    go_wp2_with (first | (go_at_call 10; refine (num_any _ _).mono ?_; rintro e w' ⟨rfl, rfl⟩))
    go_quiet (fail)
    go_wp2
    go_ret
    exact ⟨rfl, (H4.out).drewN _⟩
  · have s1 : signL q = [98] := by unfold signL; rw [if_neg (by omega), if_pos hs]
    have s2 : signL (-q) = [97] := by unfold signL; rw [if_pos (by omega)]
    rw [s1] at c1
    rw [s2] at c2
    have hGl := greatL_length q.natAbs 9 3
    generalize greatL q.natAbs 9 3 = G at *
    obtain ⟨z1, x1, y1⟩ := sign_strings G 98 (by omega)
    obtain ⟨z2, x2, y2⟩ := sign_strings G 97 (by omega)
    generalize strOfNums (G ++ [98]) = s at *
    generalize strOfNums (G ++ [97]) = t at *
    generalize strOfNums G = u at *
    have hqn : (q == 0) = false := by simp; omega
    obtain ⟨L, hL⟩ : ∃ L, L = G.length := ⟨_, rfl⟩
    rw [← hL] at z1 z2 x1 x2 hGl
    have y1' : ∀ h, ((s[L]'h).toNat : Int) = 98 := by subst hL; exact y1
    have y2' : ∀ h, ((t[L]'h).toNat : Int) = 97 := by subst hL; exact y2
    have ne1 : s.toList.isEmpty = false := by
      rw [ByteArray.toList_eq]
      cases e : s.data.toList with
      | nil => have : s.size = 0 := by rw [← ByteArray.size_data, ← Array.length_toList, e]; rfl
               omega
      | cons a l => rfl
    clear y1 y2 hL s1 s2
    have C1 := Lib.hid c1
    have C2 := Lib.hid c2
    have C3 := Lib.hid c3
    clear c1 c2 c3
    go_enter Try.func6, Try.ntmps6
    go_wp2_with fail
    refine (awake6 _).mono ?_
    rintro e w1 ⟨rfl, h1⟩
    have H1 := Lib.hid h1
    clear h1
    go_wp2_with fail
    refine (C1.out _).mono ?_
    rintro e w2 ⟨rfl, h2⟩
    have H2 := Lib.hid (((H1.out).alloc _).trans h2)
    clear h2
    go_wp2_with fail
    refine (C2.out _).mono ?_
    rintro e w3 ⟨rfl, h3⟩
    have H3 := Lib.hid ((H2.out).trans h3)
    clear h3
    go_wp2_with fail
    refine (C3.out _).mono ?_
    rintro e w4 ⟨rfl, h4⟩
    have H4 := Lib.hid ((H3.out).trans h4)
    clear h4
    go_wp2_with (first | (go_at_call 10; refine (num_any _ _).mono ?_; rintro e w' ⟨rfl, rfl⟩))
    go_quiet (fail)
    go_wp2
    go_ret
    exact ⟨rfl, (H4.out).drewN _⟩
  · subst hs
    have g0 : strOfNums (greatL (0 : Int).natAbs 9 3 ++ signL 0) = ⟨#[48]⟩ := by rfl
    have g1 : strOfNums (greatL (0 : Int).natAbs 9 3 ++ signL (-0)) = ⟨#[48]⟩ := by rfl
    rw [g0] at c1
    rw [g1] at c2
    have C1 := Lib.hid c1
    have C2 := Lib.hid c2
    have C3 := Lib.hid c3
    clear c1 c2 c3 g0 g1
    go_enter Try.func6, Try.ntmps6
    go_wp2_with fail
    refine (awake6 _).mono ?_
    rintro e w1 ⟨rfl, h1⟩
    have H1 := Lib.hid h1
    clear h1
    go_wp2_with fail
    refine (C1.out _).mono ?_
    rintro e w2 ⟨rfl, h2⟩
    have H2 := Lib.hid (((H1.out).alloc _).trans h2)
    clear h2
    go_wp2_with fail
    refine (C2.out _).mono ?_
    rintro e w3 ⟨rfl, h3⟩
    have H3 := Lib.hid ((H2.out).trans h3)
    clear h3
    go_wp2_with fail
    refine (C3.out _).mono ?_
    rintro e w4 ⟨rfl, h4⟩
    have H4 := Lib.hid ((H3.out).trans h4)
    clear h4
    go_wp2_with (first | (go_at_call 10; refine (num_any _ _).mono ?_; rintro e w' ⟨rfl, rfl⟩))
    go_ret
    exact ⟨rfl, H4.out⟩
end Go.Proofs.Ytibojidpifgblaa
