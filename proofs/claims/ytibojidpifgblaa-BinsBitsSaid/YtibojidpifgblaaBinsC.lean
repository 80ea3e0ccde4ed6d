/-
  The walk over bins.Bits: an element's bins as a text, in new memory alone.
-/
import Derived.Test.YtibojidpifgblaaBinsB
namespace Go.Proofs.Ytibojidpifgblaa
open Go.RowKit

theorem bins_size (x : Int) (w : World) (h1 : -100000 ≤ x) (h2 : x ≤ 100000) :
    Calls Try.prog 20 #[.int .i64 x] w fun e w' => e = .returned (.int .i64 x.natAbs) ∧ w = w' := by
  go_enter Try.func20, Try.ntmps20
  go_wp2
  all_goals
    go_ret
    exact ⟨ret_int (by omega), rfl⟩

/-- The text of a slice of bytes that the call itself has made. -/
theorem run_text {P : Program} {w : World} {B src e dst : TypeId} {v : Value} {xs : List Int} (hs : P.underlying src = some (.slice e)) (he : P.underlying e = some (.int .u8)) (hd : P.underlying dst = some .string)
    (hown : w.ownsRow B e 1 v xs.length (xs.map (Value.int .u8))) : (convert src dst v).run P w = .ok (.string (strOfNums xs)) w := by
  rcases hown.2 with ⟨rfl, h⟩ | ⟨g, cap, cur, rfl, _⟩
  · have : xs = [] := List.eq_nil_of_length_eq_zero h
    subst this
    exact run_convert_bytes_nil w src e hs he 0 0 dst hd
  · refine run_convert_bytes_arg w src e hs he g 0 xs.length cap xs rfl ?_ dst hd
    intro i hi
    rw [Nat.zero_add, hown.cellAt i (by omega)]
    simp [List.getElem?_eq_getElem hi]

theorem MakerAt.new {B : Nat} {w : World} (h : B ≤ w.heap.size) : MakerAt B (w.alloc (.cells #[.slice none 0 0] 57)) w.heap.size [] :=
  ⟨_, heap_alloc_at _ _, World.ownsRow_nil _ _ _ _, h⟩

set_option maxHeartbeats 1600000 in
theorem bits_no (el v most : Int) (w : World) (h : mayOf (kindOf el) v most = false) :
    Calls Try.prog 8 #[.int .i64 el, .int .i64 v, .int .i64 most] w fun e w' => e = .returned (.tuple #[.string (strOfNums []), .int .i64 600]) ∧ Only [] w w' := by
  have H := Lib.hid h
  clear h
  go_enter Try.func8, Try.ntmps8
  go_wp2_with fail
  refine (kinds_get w.heap.size el _ (heap_alloc_at _ _)).mono ?_
  rintro e w1 ⟨rfl, h1⟩
  have H1 := Lib.hid (((Only.refl [] w).alloc (.cells kNew 52)).trans' h1 (by simp))
  clear h1
  go_wp2_with fail
  refine (bins_may (kindOf el) v most _).mono ?_
  rintro e w2 ⟨rfl, rfl⟩
  rw [H.out]
  go_wp2
  go_ret2
  exact ⟨rfl, H1.out⟩

set_option maxHeartbeats 1600000 in
theorem bits_short (el v most : Int) (w : World) (h : mayOf (kindOf el) v most = true) (hk : kindOf el = 2) :
    Calls Try.prog 8 #[.int .i64 el, .int .i64 v, .int .i64 most] w fun e w' => e = .returned (.tuple #[.string (strOfNums (rawL 2 v most)), .int .i64 0]) ∧ Only [] w w' := by
  have hb : 1 ≤ most ∧ most ≤ 63 ∧ 0 ≤ v ∧ v ≤ most := by rw [hk] at h; simpa [mayOf] using h
  obtain ⟨b1, b2, b3, b4⟩ := hb
  have H := Lib.hid h
  have Hk := Lib.hid hk
  clear h hk
  go_enter Try.func8, Try.ntmps8
  go_wp2_with fail
  refine (kinds_get w.heap.size el _ (heap_alloc_at _ _)).mono ?_
  rintro e w1 ⟨rfl, h1⟩
  have H1 := Lib.hid (((Only.refl [] w).alloc (.cells kNew 52)).trans' h1 (by simp))
  clear h1
  go_wp2_with fail
  refine (bins_may (kindOf el) v most _).mono ?_
  rintro e w2 ⟨rfl, rfl⟩
  rw [H.out, Hk.out]
  go_wp2_with fail
  refine (maker_ones_i w1.heap.size w1.heap.size v most [] _ (MakerAt.new (Nat.le_refl _)) (by simp) (by omega) (by omega) (by omega) (by omega)).mono ?_
  rintro e w2 ⟨rfl, ⟨sv, hb, hown, hB⟩, hbel⟩
  have hc := cell_of_one hb
  have ht := run_text Try.underlying55 Try.underlying5 Try.underlying9 hown
  have H2 := Lib.hid (H1.out.trans (((Only.refl [] w1).alloc _).trans_below hbel (Nat.le_refl _)))
  clear hb hown hbel
  go_wp2
  go_ret2
  exact ⟨rfl, H2.out⟩

set_option maxHeartbeats 1600000 in
theorem bits_flag (el v most : Int) (w : World) (h : mayOf (kindOf el) v most = true) (hk : kindOf el = 1) :
    Calls Try.prog 8 #[.int .i64 el, .int .i64 v, .int .i64 most] w fun e w' => e = .returned (.tuple #[.string (strOfNums (rawL 1 v most)), .int .i64 0]) ∧ Only [] w w' := by
  have hb : v = 0 ∨ v = 1 := by rw [hk] at h; simpa [mayOf] using h
  have H := Lib.hid h
  have Hk := Lib.hid hk
  have hv : 0 ≤ v ∧ v ≤ 1 := by omega
  obtain ⟨v0, v1⟩ := hv
  clear hb
  clear h hk
  go_enter Try.func8, Try.ntmps8
  go_wp2_with fail
  refine (kinds_get w.heap.size el _ (heap_alloc_at _ _)).mono ?_
  rintro e w1 ⟨rfl, h1⟩
  have H1 := Lib.hid (((Only.refl [] w).alloc (.cells kNew 52)).trans' h1 (by simp))
  clear h1
  go_wp2_with fail
  refine (bins_may (kindOf el) v most _).mono ?_
  rintro e w2 ⟨rfl, rfl⟩
  rw [H.out, Hk.out]
  have hown0 := World.ownsRow_nil (w1.alloc (.cells #[.slice none 0 0] 57)) w1.heap.size 5 1
  have hb0 := heap_alloc_at w1 (.cells #[.slice none 0 0] 57)
  go_wp2_with (at_builtin; refine wpList_push rfl _ _ rfl elt8 w1.heap.size _ 0 [] _ hown0 rfl rfl (by simp) rfl (by simp) (by decide) (by omega) ?_)
  intro g cap w2 hp
  obtain ⟨hown, hb, hbel, hb1⟩ := MakerAt.first hb0 hp
  have hc1 := cell_of_one hb1
  have hf1 := free_of_one hb1
  have hc := cell_of_one hb
  have ht := run_text Try.underlying55 Try.underlying5 Try.underlying9 hown
  have H2 := Lib.hid (H1.out.trans (((Only.refl [] w1).alloc _).trans_below hbel (Nat.le_refl _)))
  clear hb hown hbel hp hb0 hown0 hb1
  go_wp2
  go_ret2
  exact ⟨rfl, H2.out⟩

set_option maxHeartbeats 1600000 in
theorem bits_great (el v most : Int) (w : World) (h : mayOf (kindOf el) v most = true) (hk : kindOf el = 4) :
    Calls Try.prog 8 #[.int .i64 el, .int .i64 v, .int .i64 most] w fun e w' => e = .returned (.tuple #[.string (strOfNums (rawL 4 v most)), .int .i64 0]) ∧ Only [] w w' := by
  have hb : 0 ≤ v ∧ v ≤ 65535 := by rw [hk] at h; simpa [mayOf] using h
  have H := Lib.hid h
  have Hk := Lib.hid hk
  obtain ⟨v0, v1⟩ := hb
  clear h hk
  go_enter Try.func8, Try.ntmps8
  go_wp2_with fail
  refine (kinds_get w.heap.size el _ (heap_alloc_at _ _)).mono ?_
  rintro e w1 ⟨rfl, h1⟩
  have H1 := Lib.hid (((Only.refl [] w).alloc (.cells kNew 52)).trans' h1 (by simp))
  clear h1
  go_wp2_with fail
  refine (bins_may (kindOf el) v most _).mono ?_
  rintro e w2 ⟨rfl, rfl⟩
  rw [H.out, Hk.out]
  go_wp2_with fail
  refine (maker_great w1.heap.size w1.heap.size v 14 0 [] _ (MakerAt.new (Nat.le_refl _)) (by simp) (by omega) (by omega) (by omega) (by omega) (by omega) (by omega)).mono ?_
  rintro e w2 ⟨rfl, ⟨sv, hb, hown, hB⟩, hbel⟩
  have e4 : ([] : List Int) ++ greatL v.toNat (14 : Int).toNat (0 : Int).toNat = rawL 4 v most := by
    show greatL v.toNat 14 0 = greatL v.natAbs 14 0
    rw [show v.toNat = v.natAbs by omega]
  rw [e4] at hown
  have hc := cell_of_one hb
  have ht := run_text Try.underlying55 Try.underlying5 Try.underlying9 hown
  have H2 := Lib.hid (H1.out.trans (((Only.refl [] w1).alloc _).trans_below hbel (Nat.le_refl _)))
  clear hb hown hbel
  go_wp2
  go_ret2
  exact ⟨rfl, H2.out⟩

set_option maxHeartbeats 1600000 in
theorem bits_pos (el v most : Int) (w : World) (h : mayOf (kindOf el) v most = true) (hk : kindOf el = 3) (hv : 0 < v) :
    Calls Try.prog 8 #[.int .i64 el, .int .i64 v, .int .i64 most] w fun e w' => e = .returned (.tuple #[.string (strOfNums (rawL 3 v most)), .int .i64 0]) ∧ Only [] w w' := by
  have hb : -32767 ≤ v ∧ v ≤ 32767 := by rw [hk] at h; simpa [mayOf] using h
  have H := Lib.hid h
  have Hk := Lib.hid hk
  obtain ⟨v0, v1⟩ := hb
  clear h hk
  go_enter Try.func8, Try.ntmps8
  go_wp2_with fail
  refine (kinds_get w.heap.size el _ (heap_alloc_at _ _)).mono ?_
  rintro e w1 ⟨rfl, h1⟩
  have H1 := Lib.hid (((Only.refl [] w).alloc (.cells kNew 52)).trans' h1 (by simp))
  clear h1
  go_wp2_with fail
  refine (bins_may (kindOf el) v most _).mono ?_
  rintro e w2 ⟨rfl, rfl⟩
  rw [H.out, Hk.out]
  go_wp2_with fail
  refine (bins_size v _ (by omega) (by omega)).mono ?_
  rintro e w2 ⟨rfl, rfl⟩
  go_wp2_with fail
  refine (maker_great w1.heap.size w1.heap.size v.natAbs 9 3 [] _ (MakerAt.new (Nat.le_refl _)) (by simp) (by omega) (by omega) (by omega) (by omega) (by omega) (by omega)).mono ?_
  rintro e w2 ⟨rfl, hM, hbel0⟩
  have Hb0 := Lib.hid hbel0
  clear hbel0
  go_wp2_with fail
  refine (maker_bypass w1.heap.size w1.heap.size 0 _ _ hM (by rw [List.nil_append]; have := greatL_length (v.natAbs : Int).toNat (9 : Int).toNat (3 : Int).toNat; omega) (by omega) (by omega)).mono ?_
  rintro e w3 ⟨rfl, ⟨sv, hb, hown, hB⟩, hbel1⟩
  have hbel := Hb0.out.trans hbel1
  clear hbel1
  have e4 : (([] : List Int) ++ greatL ((v.natAbs : Nat) : Int).toNat (9 : Int).toNat (3 : Int).toNat) ++ [97 + 0] = rawL 3 v most := by
    show greatL v.natAbs 9 3 ++ [97 + 0] = greatL v.natAbs 9 3 ++ signL v
    congr 1
    unfold signL
    rw [if_pos hv]; rfl
  rw [e4] at hown
  have hc := cell_of_one hb
  have ht := run_text Try.underlying55 Try.underlying5 Try.underlying9 hown
  have H2 := Lib.hid (H1.out.trans (((Only.refl [] w1).alloc _).trans_below hbel (Nat.le_refl _)))
  clear hb hown hbel
  go_wp2
  go_ret2
  exact ⟨rfl, H2.out⟩

set_option maxHeartbeats 1600000 in
theorem bits_neg (el v most : Int) (w : World) (h : mayOf (kindOf el) v most = true) (hk : kindOf el = 3) (hv : v < 0) :
    Calls Try.prog 8 #[.int .i64 el, .int .i64 v, .int .i64 most] w fun e w' => e = .returned (.tuple #[.string (strOfNums (rawL 3 v most)), .int .i64 0]) ∧ Only [] w w' := by
  have hb : -32767 ≤ v ∧ v ≤ 32767 := by rw [hk] at h; simpa [mayOf] using h
  have H := Lib.hid h
  have Hk := Lib.hid hk
  obtain ⟨v0, v1⟩ := hb
  clear h hk
  go_enter Try.func8, Try.ntmps8
  go_wp2_with fail
  refine (kinds_get w.heap.size el _ (heap_alloc_at _ _)).mono ?_
  rintro e w1 ⟨rfl, h1⟩
  have H1 := Lib.hid (((Only.refl [] w).alloc (.cells kNew 52)).trans' h1 (by simp))
  clear h1
  go_wp2_with fail
  refine (bins_may (kindOf el) v most _).mono ?_
  rintro e w2 ⟨rfl, rfl⟩
  rw [H.out, Hk.out]
  go_wp2_with fail
  refine (bins_size v _ (by omega) (by omega)).mono ?_
  rintro e w2 ⟨rfl, rfl⟩
  go_wp2_with fail
  refine (maker_great w1.heap.size w1.heap.size v.natAbs 9 3 [] _ (MakerAt.new (Nat.le_refl _)) (by simp) (by omega) (by omega) (by omega) (by omega) (by omega) (by omega)).mono ?_
  rintro e w2 ⟨rfl, hM, hbel0⟩
  have Hb0 := Lib.hid hbel0
  clear hbel0
  go_wp2_with fail
  refine (maker_bypass w1.heap.size w1.heap.size 1 _ _ hM (by rw [List.nil_append]; have := greatL_length (v.natAbs : Int).toNat (9 : Int).toNat (3 : Int).toNat; omega) (by omega) (by omega)).mono ?_
  rintro e w3 ⟨rfl, ⟨sv, hb, hown, hB⟩, hbel1⟩
  have hbel := Hb0.out.trans hbel1
  clear hbel1
  have e4 : (([] : List Int) ++ greatL ((v.natAbs : Nat) : Int).toNat (9 : Int).toNat (3 : Int).toNat) ++ [97 + 1] = rawL 3 v most := by
    show greatL v.natAbs 9 3 ++ [97 + 1] = greatL v.natAbs 9 3 ++ signL v
    congr 1
    unfold signL
    rw [if_neg (by omega), if_pos hv]; rfl
  rw [e4] at hown
  have hc := cell_of_one hb
  have ht := run_text Try.underlying55 Try.underlying5 Try.underlying9 hown
  have H2 := Lib.hid (H1.out.trans (((Only.refl [] w1).alloc _).trans_below hbel (Nat.le_refl _)))
  clear hb hown hbel
  go_wp2
  go_ret2
  exact ⟨rfl, H2.out⟩

set_option maxHeartbeats 1600000 in
theorem bits_zero (el v most : Int) (w : World) (h : mayOf (kindOf el) v most = true) (hk : kindOf el = 3) (hv : ¬ 0 < v) (hv' : ¬ v < 0) :
    Calls Try.prog 8 #[.int .i64 el, .int .i64 v, .int .i64 most] w fun e w' => e = .returned (.tuple #[.string (strOfNums (rawL 3 v most)), .int .i64 0]) ∧ Only [] w w' := by
  have hb : -32767 ≤ v ∧ v ≤ 32767 := by rw [hk] at h; simpa [mayOf] using h
  have H := Lib.hid h
  have Hk := Lib.hid hk
  obtain ⟨v0, v1⟩ := hb
  clear h hk
  go_enter Try.func8, Try.ntmps8
  go_wp2_with fail
  refine (kinds_get w.heap.size el _ (heap_alloc_at _ _)).mono ?_
  rintro e w1 ⟨rfl, h1⟩
  have H1 := Lib.hid (((Only.refl [] w).alloc (.cells kNew 52)).trans' h1 (by simp))
  clear h1
  go_wp2_with fail
  refine (bins_may (kindOf el) v most _).mono ?_
  rintro e w2 ⟨rfl, rfl⟩
  rw [H.out, Hk.out]
  go_wp2_with fail
  refine (bins_size v _ (by omega) (by omega)).mono ?_
  rintro e w2 ⟨rfl, rfl⟩
  go_wp2_with fail
  refine (maker_great w1.heap.size w1.heap.size v.natAbs 9 3 [] _ (MakerAt.new (Nat.le_refl _)) (by simp) (by omega) (by omega) (by omega) (by omega) (by omega) (by omega)).mono ?_
  rintro e w2 ⟨rfl, hM, hbel0⟩
  obtain ⟨sv, hb, hown, hB⟩ := hM
  have hbel := hbel0
  clear hbel0
  have e4 : ([] : List Int) ++ greatL ((v.natAbs : Nat) : Int).toNat (9 : Int).toNat (3 : Int).toNat = rawL 3 v most := by
    show greatL v.natAbs 9 3 = greatL v.natAbs 9 3 ++ signL v
    unfold signL
    rw [if_neg (by omega), if_neg (by omega), List.append_nil]
  rw [e4] at hown
  have hc := cell_of_one hb
  have ht := run_text Try.underlying55 Try.underlying5 Try.underlying9 hown
  have H2 := Lib.hid (H1.out.trans (((Only.refl [] w1).alloc _).trans_below hbel (Nat.le_refl _)))
  clear hb hown hbel
  go_wp2
  go_ret2
  exact ⟨rfl, H2.out⟩

/-- ████ bins.Bits, every element, every number ████ -/
theorem bits_any (el v most : Int) (w : World) :
    Calls Try.prog 8 #[.int .i64 el, .int .i64 v, .int .i64 most] w fun e w' => e = .returned (.tuple #[.string (strOfNums (bitsL el v most)), .int .i64 (bitsE el v most)]) ∧ Only [] w w' := by
  cases h : mayOf (kindOf el) v most with
  | false =>
    have e1 : bitsL el v most = [] := by simp [bitsL, h]
    have e2 : bitsE el v most = 600 := by simp [bitsE, h]
    rw [e1, e2]
    exact bits_no el v most w h
  | true =>
    have e1 : bitsL el v most = rawL (kindOf el) v most := by simp [bitsL, h]
    have e2 : bitsE el v most = 0 := by simp [bitsE, h]
    rw [e1, e2]
    obtain ⟨r0, r1⟩ := kindOf_range el
    have h0 : kindOf el ≠ 0 := by intro e; rw [e] at h; simp [mayOf] at h
    rcases (show kindOf el = 1 ∨ kindOf el = 2 ∨ kindOf el = 3 ∨ kindOf el = 4 by omega) with hk | hk | hk | hk
    · rw [hk]; exact bits_flag el v most w h hk
    · rw [hk]; exact bits_short el v most w h hk
    · rw [hk]
      by_cases hv : 0 < v
      · exact bits_pos el v most w h hk hv
      · by_cases hv' : v < 0
        · exact bits_neg el v most w h hk hv'
        · exact bits_zero el v most w h hk hv hv'
    · rw [hk]; exact bits_great el v most w h hk
end Go.Proofs.Ytibojidpifgblaa
