/-
  The walk over the document's Bits at signed elements; and all of Bits.
-/
import Derived.Test.YtibojidpifgblaaRefBins
namespace Go.Proofs.Ytibojidpifgblaa
open Go.RowKit

set_option maxHeartbeats 1600000 in
theorem refbits_pb (el v most : Int) (w : World) (h : mayOf (kindOf el) v most = true) (hk : kindOf el = 3) (hv : 9 ≤ v) :
    Calls Try.prog 9 #[.int .i64 el, .int .i64 v, .int .i64 most] w fun e w' => e = .returned (.tuple #[.string (strOfNums (greatL v.natAbs 9 3 ++ signL v)), .int .i64 0]) ∧ Below w.heap.size w w' := by
  have hb : -32767 ≤ v ∧ v ≤ 32767 := by rw [hk] at h; simpa [mayOf] using h
  obtain ⟨v0, v1⟩ := hb
  have H := Lib.hid h
  have Hk := Lib.hid hk
  have Hs : Hid (signL v = [97]) := Lib.hid (by unfold signL; rw [if_pos (by omega)])
  clear h hk
  go_enter Try.func9, Try.ntmps9
  go_wp2_with fail
  refine (ref_may el v most _).mono ?_
  rintro e w2 ⟨rfl, rfl⟩
  rw [H.out]
  go_wp2_with fail
  refine (ref_kind el _).mono ?_
  rintro e w2 ⟨rfl, rfl⟩
  rw [Hk.out]
  go_wp2_with fail
  refine (ref_ones v 9 _ (by omega) (by omega) (by omega) (by omega)).mono ?_
  rintro e w2 ⟨sv, rfl, hown, hbel⟩
  rw [show (9 : Int).toNat = 9 from rfl] at hown
  obtain ⟨A, hA⟩ : ∃ A, A = onesL (min (v).toNat 9) 9 := ⟨_, rfl⟩
  rw [← hA] at hown
  have la : A.length ≤ 10 := by have := onesL_length (min (v).toNat 9) 9 (by omega); rw [hA]; omega
  have HA := Lib.hid hA
  clear hA
  have hsz := hbel.size
  have Hown := Lib.hid hown
  have Hb := Lib.hid hbel
  clear hown hbel
  go_wp2_with fail
  refine (ref_tail (v - 9) 3 _ (by omega) (by omega) (by omega) (by omega)).mono ?_
  rintro e w3 ⟨tv, rfl, htail, hbt⟩
  rw [show (3 : Int).toNat = 3 from rfl] at htail
  obtain ⟨T, hT⟩ : ∃ T, T = tailL 18 (v - 9).toNat 3 := ⟨_, rfl⟩
  rw [← hT] at htail
  have lt1 : T.length ≤ 39 := by have := tailL_length 18 (v - 9).toNat 3; rw [hT]; omega
  have lt0 : 0 < T.length := by rw [hT]; exact tailL_pos _ _ _
  have HT := Lib.hid hT
  clear hT
  have hown3 := (Hown.out).below hbt (Nat.le_refl _)
  have hsz3 := hbt.size
  obtain ⟨g, cap, rfl, hcells⟩ := htail.shape (List.length_pos_iff.1 lt0)
  have Hcells := Lib.hid hcells
  have Hb3 := Lib.hid ((Hb.out).trans (hbt.mono hsz))
  clear hcells hbt htail Hown
  go_wp2_with (at_builtin; refine wpList_appendG rfl _ _ rfl elt8 w.heap.size _ _ _ rfl hown3 _ _ _ _ rfl (by simp) Hcells.out (ints_oneCell _ _) lt0 (by decide) (by omega) (by omega) ?_)
  intro g2 cap2 w4 hp
  obtain ⟨ho, hb4⟩ := OwnsBytes.joined (by omega) hown3 hp
  have e4 : A ++ T = greatL v.natAbs 9 3 := by
    rw [HA.out, HT.out]
    unfold greatL
    rw [if_pos (by omega), show (v - 9).toNat = v.natAbs - 9 by omega, show (v).toNat = v.natAbs by omega]
  have Hb4 := Lib.hid ((Hb3.out).trans hb4)
  have hsz4 := (Hb4.out).size
  clear hb4 hp hown3
  obtain ⟨S, hS⟩ : ∃ S, S = A ++ T := ⟨_, rfl⟩
  have ls : S.length ≤ 60 := by rw [hS]; rw [List.length_append]; omega
  rw [← hS] at ho e4
  have HS := Lib.hid e4
  clear hS e4
  go_wp2_with (at_builtin; refine wpList_push rfl _ _ rfl elt8 w.heap.size _ _ _ _ ho rfl rfl (by simp) rfl (by omega) (by decide) (by omega) ?_)
  intro g3 cap3 w5 hp
  obtain ⟨ho5, hb5⟩ := ho.push (by omega) hp
  have e5 : S ++ [97] = greatL v.natAbs 9 3 ++ signL v := by rw [HS.out, Hs.out]
  rw [e5] at ho5
  have ht := ref_text ho5
  have Hb5 := Lib.hid ((Hb4.out).trans hb5)
  clear hb5 ho5 hp ho e5
  go_wp2
  go_ret2
  exact ⟨rfl, Hb5.out⟩

set_option maxHeartbeats 1600000 in
theorem refbits_ps (el v most : Int) (w : World) (h : mayOf (kindOf el) v most = true) (hk : kindOf el = 3) (hv : 0 < v) (hv2 : v < 9) :
    Calls Try.prog 9 #[.int .i64 el, .int .i64 v, .int .i64 most] w fun e w' => e = .returned (.tuple #[.string (strOfNums (greatL v.natAbs 9 3 ++ signL v)), .int .i64 0]) ∧ Below w.heap.size w w' := by
  have hb : -32767 ≤ v ∧ v ≤ 32767 := by rw [hk] at h; simpa [mayOf] using h
  obtain ⟨v0, v1⟩ := hb
  have H := Lib.hid h
  have Hk := Lib.hid hk
  have Hs : Hid (signL v = [97]) := Lib.hid (by unfold signL; rw [if_pos (by omega)])
  clear h hk
  go_enter Try.func9, Try.ntmps9
  go_wp2_with fail
  refine (ref_may el v most _).mono ?_
  rintro e w2 ⟨rfl, rfl⟩
  rw [H.out]
  go_wp2_with fail
  refine (ref_kind el _).mono ?_
  rintro e w2 ⟨rfl, rfl⟩
  rw [Hk.out]
  go_wp2_with fail
  refine (ref_ones v 9 _ (by omega) (by omega) (by omega) (by omega)).mono ?_
  rintro e w2 ⟨sv, rfl, hown, hbel⟩
  rw [show (9 : Int).toNat = 9 from rfl] at hown
  obtain ⟨A, hA⟩ : ∃ A, A = onesL (min (v).toNat 9) 9 := ⟨_, rfl⟩
  rw [← hA] at hown
  have la : A.length ≤ 10 := by have := onesL_length (min (v).toNat 9) 9 (by omega); rw [hA]; omega
  have HA := Lib.hid hA
  clear hA
  have hsz := hbel.size
  have ho := hown
  have e4 : A = greatL v.natAbs 9 3 := by
    rw [HA.out]
    unfold greatL
    rw [if_neg (by omega), List.append_nil, show (v).toNat = v.natAbs by omega]
  have Hb4 := Lib.hid hbel
  have hsz4 := (Hb4.out).size
  clear hown hbel
  have HS := Lib.hid e4
  clear e4
  go_wp2_with (at_builtin; refine wpList_push rfl _ _ rfl elt8 w.heap.size _ _ _ _ ho rfl rfl (by simp) rfl (by omega) (by decide) (by omega) ?_)
  intro g3 cap3 w5 hp
  obtain ⟨ho5, hb5⟩ := ho.push (by omega) hp
  have e5 : A ++ [97] = greatL v.natAbs 9 3 ++ signL v := by rw [HS.out, Hs.out]
  rw [e5] at ho5
  have ht := ref_text ho5
  have Hb5 := Lib.hid ((Hb4.out).trans hb5)
  clear hb5 ho5 hp ho e5
  go_wp2
  go_ret2
  exact ⟨rfl, Hb5.out⟩

set_option maxHeartbeats 1600000 in
theorem refbits_nb (el v most : Int) (w : World) (h : mayOf (kindOf el) v most = true) (hk : kindOf el = 3) (hv : v ≤ -9) :
    Calls Try.prog 9 #[.int .i64 el, .int .i64 v, .int .i64 most] w fun e w' => e = .returned (.tuple #[.string (strOfNums (greatL v.natAbs 9 3 ++ signL v)), .int .i64 0]) ∧ Below w.heap.size w w' := by
  have hb : -32767 ≤ v ∧ v ≤ 32767 := by rw [hk] at h; simpa [mayOf] using h
  obtain ⟨v0, v1⟩ := hb
  have H := Lib.hid h
  have Hk := Lib.hid hk
  have Hs : Hid (signL v = [98]) := Lib.hid (by unfold signL; rw [if_neg (by omega), if_pos (by omega)])
  clear h hk
  go_enter Try.func9, Try.ntmps9
  go_wp2_with fail
  refine (ref_may el v most _).mono ?_
  rintro e w2 ⟨rfl, rfl⟩
  rw [H.out]
  go_wp2_with fail
  refine (ref_kind el _).mono ?_
  rintro e w2 ⟨rfl, rfl⟩
  rw [Hk.out]
  go_wp2_with fail
  refine (ref_ones (-v) 9 _ (by omega) (by omega) (by omega) (by omega)).mono ?_
  rintro e w2 ⟨sv, rfl, hown, hbel⟩
  rw [show (9 : Int).toNat = 9 from rfl] at hown
  obtain ⟨A, hA⟩ : ∃ A, A = onesL (min ((-v)).toNat 9) 9 := ⟨_, rfl⟩
  rw [← hA] at hown
  have la : A.length ≤ 10 := by have := onesL_length (min ((-v)).toNat 9) 9 (by omega); rw [hA]; omega
  have HA := Lib.hid hA
  clear hA
  have hsz := hbel.size
  have Hown := Lib.hid hown
  have Hb := Lib.hid hbel
  clear hown hbel
  go_wp2_with fail
  refine (ref_tail ((-v) - 9) 3 _ (by omega) (by omega) (by omega) (by omega)).mono ?_
  rintro e w3 ⟨tv, rfl, htail, hbt⟩
  rw [show (3 : Int).toNat = 3 from rfl] at htail
  obtain ⟨T, hT⟩ : ∃ T, T = tailL 18 ((-v) - 9).toNat 3 := ⟨_, rfl⟩
  rw [← hT] at htail
  have lt1 : T.length ≤ 39 := by have := tailL_length 18 ((-v) - 9).toNat 3; rw [hT]; omega
  have lt0 : 0 < T.length := by rw [hT]; exact tailL_pos _ _ _
  have HT := Lib.hid hT
  clear hT
  have hown3 := (Hown.out).below hbt (Nat.le_refl _)
  have hsz3 := hbt.size
  obtain ⟨g, cap, rfl, hcells⟩ := htail.shape (List.length_pos_iff.1 lt0)
  have Hcells := Lib.hid hcells
  have Hb3 := Lib.hid ((Hb.out).trans (hbt.mono hsz))
  clear hcells hbt htail Hown
  go_wp2_with (at_builtin; refine wpList_appendG rfl _ _ rfl elt8 w.heap.size _ _ _ rfl hown3 _ _ _ _ rfl (by simp) Hcells.out (ints_oneCell _ _) lt0 (by decide) (by omega) (by omega) ?_)
  intro g2 cap2 w4 hp
  obtain ⟨ho, hb4⟩ := OwnsBytes.joined (by omega) hown3 hp
  have e4 : A ++ T = greatL v.natAbs 9 3 := by
    rw [HA.out, HT.out]
    unfold greatL
    rw [if_pos (by omega), show ((-v) - 9).toNat = v.natAbs - 9 by omega, show ((-v)).toNat = v.natAbs by omega]
  have Hb4 := Lib.hid ((Hb3.out).trans hb4)
  have hsz4 := (Hb4.out).size
  clear hb4 hp hown3
  obtain ⟨S, hS⟩ : ∃ S, S = A ++ T := ⟨_, rfl⟩
  have ls : S.length ≤ 60 := by rw [hS]; rw [List.length_append]; omega
  rw [← hS] at ho e4
  have HS := Lib.hid e4
  clear hS e4
  go_wp2_with (at_builtin; refine wpList_push rfl _ _ rfl elt8 w.heap.size _ _ _ _ ho rfl rfl (by simp) rfl (by omega) (by decide) (by omega) ?_)
  intro g3 cap3 w5 hp
  obtain ⟨ho5, hb5⟩ := ho.push (by omega) hp
  have e5 : S ++ [98] = greatL v.natAbs 9 3 ++ signL v := by rw [HS.out, Hs.out]
  rw [e5] at ho5
  have ht := ref_text ho5
  have Hb5 := Lib.hid ((Hb4.out).trans hb5)
  clear hb5 ho5 hp ho e5
  go_wp2
  go_ret2
  exact ⟨rfl, Hb5.out⟩

set_option maxHeartbeats 1600000 in
theorem refbits_ns (el v most : Int) (w : World) (h : mayOf (kindOf el) v most = true) (hk : kindOf el = 3) (hv : v < 0) (hv2 : -9 < v) :
    Calls Try.prog 9 #[.int .i64 el, .int .i64 v, .int .i64 most] w fun e w' => e = .returned (.tuple #[.string (strOfNums (greatL v.natAbs 9 3 ++ signL v)), .int .i64 0]) ∧ Below w.heap.size w w' := by
  have hb : -32767 ≤ v ∧ v ≤ 32767 := by rw [hk] at h; simpa [mayOf] using h
  obtain ⟨v0, v1⟩ := hb
  have H := Lib.hid h
  have Hk := Lib.hid hk
  have Hs : Hid (signL v = [98]) := Lib.hid (by unfold signL; rw [if_neg (by omega), if_pos (by omega)])
  clear h hk
  go_enter Try.func9, Try.ntmps9
  go_wp2_with fail
  refine (ref_may el v most _).mono ?_
  rintro e w2 ⟨rfl, rfl⟩
  rw [H.out]
  go_wp2_with fail
  refine (ref_kind el _).mono ?_
  rintro e w2 ⟨rfl, rfl⟩
  rw [Hk.out]
  go_wp2_with fail
  refine (ref_ones (-v) 9 _ (by omega) (by omega) (by omega) (by omega)).mono ?_
  rintro e w2 ⟨sv, rfl, hown, hbel⟩
  rw [show (9 : Int).toNat = 9 from rfl] at hown
  obtain ⟨A, hA⟩ : ∃ A, A = onesL (min ((-v)).toNat 9) 9 := ⟨_, rfl⟩
  rw [← hA] at hown
  have la : A.length ≤ 10 := by have := onesL_length (min ((-v)).toNat 9) 9 (by omega); rw [hA]; omega
  have HA := Lib.hid hA
  clear hA
  have hsz := hbel.size
  have ho := hown
  have e4 : A = greatL v.natAbs 9 3 := by
    rw [HA.out]
    unfold greatL
    rw [if_neg (by omega), List.append_nil, show ((-v)).toNat = v.natAbs by omega]
  have Hb4 := Lib.hid hbel
  have hsz4 := (Hb4.out).size
  clear hown hbel
  have HS := Lib.hid e4
  clear e4
  go_wp2_with (at_builtin; refine wpList_push rfl _ _ rfl elt8 w.heap.size _ _ _ _ ho rfl rfl (by simp) rfl (by omega) (by decide) (by omega) ?_)
  intro g3 cap3 w5 hp
  obtain ⟨ho5, hb5⟩ := ho.push (by omega) hp
  have e5 : A ++ [98] = greatL v.natAbs 9 3 ++ signL v := by rw [HS.out, Hs.out]
  rw [e5] at ho5
  have ht := ref_text ho5
  have Hb5 := Lib.hid ((Hb4.out).trans hb5)
  clear hb5 ho5 hp ho e5
  go_wp2
  go_ret2
  exact ⟨rfl, Hb5.out⟩

set_option maxHeartbeats 1600000 in
theorem refbits_z (el v most : Int) (w : World) (h : mayOf (kindOf el) v most = true) (hk : kindOf el = 3) (hv : ¬ 0 < v) (hv2 : ¬ v < 0) :
    Calls Try.prog 9 #[.int .i64 el, .int .i64 v, .int .i64 most] w fun e w' => e = .returned (.tuple #[.string (strOfNums (greatL v.natAbs 9 3 ++ signL v)), .int .i64 0]) ∧ Below w.heap.size w w' := by
  have hb : -32767 ≤ v ∧ v ≤ 32767 := by rw [hk] at h; simpa [mayOf] using h
  obtain ⟨v0, v1⟩ := hb
  have H := Lib.hid h
  have Hk := Lib.hid hk
  have Hs : Hid (signL v = []) := Lib.hid (by unfold signL; rw [if_neg (by omega), if_neg (by omega)])
  clear h hk
  go_enter Try.func9, Try.ntmps9
  go_wp2_with fail
  refine (ref_may el v most _).mono ?_
  rintro e w2 ⟨rfl, rfl⟩
  rw [H.out]
  go_wp2_with fail
  refine (ref_kind el _).mono ?_
  rintro e w2 ⟨rfl, rfl⟩
  rw [Hk.out]
  go_wp2_with fail
  refine (ref_ones v 9 _ (by omega) (by omega) (by omega) (by omega)).mono ?_
  rintro e w2 ⟨sv, rfl, hown, hbel⟩
  rw [show (9 : Int).toNat = 9 from rfl] at hown
  obtain ⟨A, hA⟩ : ∃ A, A = onesL (min (v).toNat 9) 9 := ⟨_, rfl⟩
  rw [← hA] at hown
  have la : A.length ≤ 10 := by have := onesL_length (min (v).toNat 9) 9 (by omega); rw [hA]; omega
  have HA := Lib.hid hA
  clear hA
  have hsz := hbel.size
  have ho := hown
  have e4 : A = greatL v.natAbs 9 3 := by
    rw [HA.out]
    unfold greatL
    rw [if_neg (by omega), List.append_nil, show (v).toNat = v.natAbs by omega]
  have Hb4 := Lib.hid hbel
  have hsz4 := (Hb4.out).size
  clear hown hbel
  have ht := ref_text ho
  rw [e4, ← List.append_nil (greatL v.natAbs 9 3), ← Hs.out] at ht
  clear ho e4
  go_wp2
  go_ret2
  exact ⟨rfl, Hb4.out⟩

/-- ████ The document's Bits, every element, every number ████ -/
theorem refbits_any (el v most : Int) (w : World) :
    Calls Try.prog 9 #[.int .i64 el, .int .i64 v, .int .i64 most] w fun e w' => e = .returned (.tuple #[.string (strOfNums (bitsL el v most)), .int .i64 (bitsE el v most)]) ∧ Below w.heap.size w w' := by
  cases h : mayOf (kindOf el) v most with
  | false =>
    have e1 : bitsL el v most = [] := by simp [bitsL, h]
    have e2 : bitsE el v most = 600 := by simp [bitsE, h]
    rw [e1, e2]
    exact refbits_no el v most w h
  | true =>
    have e1 : bitsL el v most = rawL (kindOf el) v most := by simp [bitsL, h]
    have e2 : bitsE el v most = 0 := by simp [bitsE, h]
    rw [e1, e2]
    obtain ⟨r0, r1⟩ := kindOf_range el
    have h0 : kindOf el ≠ 0 := by intro e; rw [e] at h; simp [mayOf] at h
    rcases (show kindOf el = 1 ∨ kindOf el = 2 ∨ kindOf el = 3 ∨ kindOf el = 4 by omega) with hk | hk | hk | hk
    · rw [hk]; exact refbits_flag el v most w h hk
    · rw [hk]; exact refbits_short el v most w h hk
    · rw [hk]
      show Calls _ _ _ w fun e w' => e = .returned (.tuple #[.string (strOfNums (greatL v.natAbs 9 3 ++ signL v)), .int .i64 0]) ∧ Below w.heap.size w w'
      rcases (show 9 ≤ v ∨ (0 < v ∧ v < 9) ∨ v ≤ -9 ∨ (v < 0 ∧ -9 < v) ∨ (¬ 0 < v ∧ ¬ v < 0) by omega) with hv | ⟨hv, hv2⟩ | hv | ⟨hv, hv2⟩ | ⟨hv, hv2⟩
      · exact refbits_pb el v most w h hk hv
      · exact refbits_ps el v most w h hk hv hv2
      · exact refbits_nb el v most w h hk hv
      · exact refbits_ns el v most w h hk hv hv2
      · exact refbits_z el v most w h hk hv hv2
    · rw [hk]; exact refbits_great el v most w h hk
end Go.Proofs.Ytibojidpifgblaa
