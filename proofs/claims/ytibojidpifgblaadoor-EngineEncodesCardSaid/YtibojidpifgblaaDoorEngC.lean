/-
  The walks over package engine: next, Range, Next, begin.
-/
import Derived.Test.YtibojidpifgblaaDoorEngB
import Derived.Test.YtibojidpifgblaaDoorEnc
import Derived.Test.YtibojidpifgblaaDoorPlain
namespace Go.Proofs.YtibojidpifgblaaDoor
open Go.RowKit

set_option maxRecDepth 100000 in
theorem widthL_len : widthL.length = 256 := by decide
set_option maxRecDepth 100000 in
theorem downL_len : downL.length = 64 := by decide
theorem tab_w {w : World} {tb : Nat} (h : TableAt w tb) (i : Nat) (hi : i < 256) : w.cell? ⟨tb, 3 + i, none⟩ = some (.int .i64 (widthL.getD i 0)) := by
  rw [cells_of h]; exact tabCells_w _ _ _ _ _ _ (by rw [widthL_len]; exact hi)
theorem tab_d {w : World} {tb : Nat} (h : TableAt w tb) (i : Nat) (hi : i < 64) : w.cell? ⟨tb, 259 + i, none⟩ = some (.int .i64 (downL.getD i 0)) := by
  rw [cells_of h]
  have := tabCells_d (.int .u32 1) (.int .i32 0) (.int .u32 0) widthL downL i (by rw [downL_len]; exact hi)
  rw [widthL_len] at this
  exact this
theorem TableAt.only {S : List Nat} {w w' : World} {tb : Nat} (h : TableAt w tb) (ho : Only S w w') (hs : tb ∉ S) : TableAt w' tb := ho.heap h hs
theorem state_parts (s : Int) (h0 : 0 ≤ s) (h1 : s < 128) : ∃ k r : Nat, s = 2 * (k : Int) + r ∧ k < 64 ∧ r < 2 := ⟨(s / 2).toNat, (s % 2).toNat, by omega, by omega, by omega⟩

set_option maxRecDepth 100000 in
theorem eng_next (tb : Nat) (s : Int) (m : Bool) (w : World) (ht : TableAt w tb) (h0 : 0 ≤ s) (h1 : s < 128) :
    Calls Tryd.prog 47 #[.pointer (some ⟨tb, 0, none⟩), .int .i64 s, .bool m] w fun e w' => e = .returned (.int .i64 (nextOf s m)) ∧ w = w' := by
  obtain ⟨k, r, rfl, hk, hr⟩ := state_parts s h0 h1
  have c1 := tab_d ht k hk
  have hd := downL_range k hk
  obtain ⟨d, hd2⟩ : ∃ d, d = downL.getD k 0 := ⟨_, rfl⟩
  rw [← hd2] at c1 hd
  obtain ⟨hd0, hd1⟩ := hd
  have Hd := Lib.hid hd2
  have h1 : Int.tdiv (2 * (k : Int) + r) 2 = k := by rw [Int.tdiv_eq_ediv_of_nonneg (by omega)]; omega
  have h2 : Int.tmod (2 * (k : Int) + r) 2 = r := by rw [Int.tmod_eq_emod_of_nonneg (by omega)]; omega
  clear hd2
  have hq : (2 * (k : Int) + r) / 2 = k := by omega
  have hq2 : (2 * (k : Int) + r) % 2 = r := by omega
  have Hn : Hid (nextOf (2 * (k : Int) + r) m = if m then (if (k : Int) < 62 then 2 * ((k : Int) + 1) + r else 2 * (k : Int) + r) else if (k : Int) = 0 then 1 - (r : Int) else 2 * d + r) := Lib.hid (by
    unfold nextOf
    rw [hq, hq2, Int.toNat_natCast, ← Hd.out]
    cases m
    · by_cases hz : (k : Int) = 0 <;> simp [hz, downL]
    · simp)
  clear hq hq2 ht
  go_enter Tryd.func47, Tryd.ntmps47
  cases m
  · by_cases hz : k = 0
    · subst hz
      go_wp2
      go_ret
      refine ⟨ret_int ?_, rfl⟩
      rw [Hn.out]
      simp
      omega
    · go_wp2
      go_ret
      refine ⟨ret_int ?_, rfl⟩
      rw [Hn.out]
      simp [hz]
  · by_cases hz : k < 62
    · go_wp2
      go_ret
      refine ⟨ret_int ?_, rfl⟩
      rw [Hn.out]
      simp
      omega
    · go_wp2
      go_ret
      refine ⟨ret_int ?_, rfl⟩
      rw [Hn.out]
      simp
      omega

theorem tab_zero : Tryd.zeroCells83 = tabNew := by kernel_rfl
theorem eng_get_new (w : World) (ha : Asc w) :
    Calls Tryd.prog 45 #[.pointer (some ⟨w.heap.size, 0, none⟩)] (w.alloc (.cells Tryd.zeroCells83 83)) fun e w' =>
      e = .returned (.pointer (some ⟨w.heap.size, 0, none⟩)) ∧ TableAt w' w.heap.size ∧ Only [] w w' := by
  have hlt := ha.lt
  refine (eng_get w.heap.size _ (by rw [heap_alloc_at, tab_zero]) (ha.only ((Only.refl [] w).alloc _) (by simp)) hlt).mono ?_
  rintro e w' ⟨h1, h2, h3⟩
  exact ⟨h1, h2, ((Only.refl [] w).alloc _).trans' h3 (by simp)⟩

set_option maxRecDepth 100000 in
theorem eng_range (s q : Int) (w : World) (ha : Asc w) :
    Calls Tryd.prog 12 #[.int .i64 s, .int .i64 q] w fun e w' => e = .returned (.int .i64 (rangeOf s q)) ∧ Only [] w w' := by
  by_cases hin : 0 ≤ s ∧ s < 128 ∧ 0 ≤ q ∧ q ≤ 3
  · have hr : rangeOf s q = widthOf s q := by unfold rangeOf; rw [if_pos hin]
    obtain ⟨h0, h1, h2, h3⟩ := hin
    obtain ⟨k, r, rfl, hk, hr2⟩ := state_parts s h0 h1
    obtain ⟨j, rfl⟩ := Int.eq_ofNat_of_zero_le h2
    have hd : Int.tdiv (2 * (k : Int) + r) 2 = k := by rw [Int.tdiv_eq_ediv_of_nonneg (by omega)]; omega
    have hw : widthOf (2 * (k : Int) + r) j = widthL.getD (k * 4 + j) 0 := by unfold widthOf; congr 1; omega
    rw [hr, hw]
    clear hr hw
    go_enter Tryd.func12, Tryd.ntmps12
    go_wp2_with fail
    refine (eng_get_new w ha).mono ?_
    rintro e w1 ⟨rfl, ht, ho⟩
    have c1 := tab_w ht (k * 4 + j) (by omega)
    rw [← Nat.add_assoc] at c1
    have Ho := Lib.hid ho
    clear ht ho ha
    go_wp2
    go_ret
    exact ⟨rfl, Ho.out⟩
  · have hr : rangeOf s q = 0 := by unfold rangeOf; rw [if_neg hin]
    rw [hr]
    go_enter Tryd.func12, Tryd.ntmps12
    go_wp2 <;> go_ret <;> exact ⟨rfl, Only.refl _ _⟩

set_option maxRecDepth 100000 in
theorem eng_Next (s : Int) (m : Bool) (w : World) (ha : Asc w) :
    Calls Tryd.prog 14 #[.int .i64 s, .bool m] w fun e w' => e = .returned (.int .i64 (stepOf s m)) ∧ Only [] w w' := by
  by_cases hin : 0 ≤ s ∧ s < 128
  · have hr : stepOf s m = nextOf s m := by unfold stepOf; rw [if_pos hin]
    obtain ⟨h0, h1⟩ := hin
    rw [hr]
    clear hr
    go_enter Tryd.func14, Tryd.ntmps14
    go_wp2_with fail
    refine (eng_get_new w ha).mono ?_
    rintro e w1 ⟨rfl, ht, ho⟩
    have Ho := Lib.hid ho
    clear ho
    go_wp2_with fail
    refine (eng_next w.heap.size s m w1 ht h0 h1).mono ?_
    rintro e w2 ⟨rfl, rfl⟩
    go_wp2
    go_ret
    exact ⟨rfl, Ho.out⟩
  · have hr : stepOf s m = 0 := by unfold stepOf; rw [if_neg hin]
    rw [hr]
    go_enter Tryd.func14, Tryd.ntmps14
    go_wp2 <;> go_ret <;> exact ⟨rfl, Only.refl _ _⟩

theorem beginOf_length (xs : List Int) : (beginOf xs).length = xs.length := by simp [beginOf]
theorem beginOf_at (xs : List Int) (i : Nat) (h : i < xs.length) : (beginOf xs).getD i 0 = if 0 ≤ xs.getD i 0 ∧ xs.getD i 0 < 128 then xs.getD i 0 else 0 := by
  simp only [beginOf, List.getD, List.getElem?_map, List.getElem?_eq_getElem h, Option.map_some, Option.getD_some]
theorem fill_list (xs : List Int) : (List.range xs.length).map (fun i => xs.getD i 0) = xs := by
  apply List.ext_getElem?
  intro i
  by_cases h : i < xs.length
  · simp [h, List.getD]
  · simp [h]

set_option maxRecDepth 100000 in
theorem eng_begin (v : Value) (xs : List Int) (w : World) (hv : IntSlice w v xs) (hl : xs.length ≤ 17592186044414) :
    Calls Tryd.prog 49 #[v] w fun e w' => ∃ g, e = .returned (.slice (some ⟨g, 0, none⟩) xs.length xs.length) ∧ w.heap.size ≤ g ∧ w'.heap[g]? = some (.cells (ints (beginOf xs)) 3 (0, 0)) ∧ Only [] w w' := by
  obtain ⟨ao, cap, rfl, ha⟩ := hv
  go_enter Tryd.func49, Tryd.ntmps49
  go_wp2_with (at_make; refine wpList_make1B rfl _ _ rfl elt64 rfl xs.length rfl rfl rfl rfl (by omega) (by omega) ?_)
  intro w1 hb ho hsz
  rw [ints_replicate] at hb
  have Hb := Lib.hid hb
  have Ho := Lib.hid ho
  clear hb ho hsz
  go_wp2
  go_loopw [11] (fun i wr => ∃ k : Nat, k ≤ xs.length ∧ i = .int .i64 k ∧ wr.heap[w.heap.size]? = some (.cells (ints (fillTo (fun i => (beginOf xs).getD i 0) xs.length k)) 3 (0, 0)) ∧ Only [] w wr) (fun i _ => xs.length - (intOf i).toNat)
  case atStart => exact ⟨0, Nat.zero_le _, rfl, by rw [fillTo_zero]; exact Hb.out, Ho.out⟩
  case round =>
    obtain ⟨k, hk, rfl, hblk, hon⟩ := hrel
    by_cases hlt : k < xs.length
    · rcases ha with ha | ⟨ga, oa, rfl, ha⟩
      · simp [ha] at hlt
      have c1 := hon.cell (ha k hlt) (by simp)
      have c2 : wr.cell? ⟨w.heap.size, k, none⟩ = some (.int .i64 ((fillTo (fun i => (beginOf xs).getD i 0) xs.length k).getD k 0)) := by
        rw [cells_of hblk]; exact ints_at _ _ (by rw [fillTo_length]; exact hlt)
      have z := free_of hblk k
      have hbe := beginOf_at xs k hlt
      generalize hx : xs.getD k 0 = x at *
      have Hblk := Lib.hid hblk
      have Hon := Lib.hid hon
      have Hbe := Lib.hid hbe
      clear hblk hon hbe ha hx
      by_cases hin : 0 ≤ x ∧ x < 128
      · obtain ⟨hx0, hx1⟩ := hin
        go_wp2
        go_roundw
        case rel =>
          refine ⟨k + 1, by omega, by go_num, ?_, Hon.out.setCell (.inr (by simp)) _⟩
          rw [heap_set_same _ Hblk.out, ints_setIf, fillTo_set]
          rw [Hbe.out, if_pos ⟨hx0, hx1⟩]
        case measure => simp [intOf] <;> omega
      · have hfill : fillTo (fun i => (beginOf xs).getD i 0) xs.length k = fillTo (fun i => (beginOf xs).getD i 0) xs.length (k + 1) := by
          unfold fillTo
          apply List.map_congr_left
          intro c hc
          by_cases h1 : c = k
          · have h2 := Hbe.out
            rw [if_neg hin] at h2
            rw [h1, if_neg (by omega), if_pos (by omega)]
            exact h2.symm
          · have h2 : (c < k + 1) ↔ (c < k) := by omega
            simp [h2]
        rw [hfill] at Hblk
        have Hblk2 := Lib.hid Hblk.out
        clear hfill
        go_wp2 <;> go_roundw
        case rel => exact ⟨k + 1, by omega, by go_num, Hblk2.out, Hon.out⟩
        case measure => simp [intOf] <;> omega
        case rel => exact ⟨k + 1, by omega, by go_num, Hblk2.out, Hon.out⟩
        case measure => simp [intOf] <;> omega
    · obtain rfl : k = xs.length := by omega
      have hb2 := hblk
      rw [fillTo_full, ← beginOf_length xs, fill_list] at hb2
      have Hb2 := Lib.hid hb2
      clear hb2 hblk
      go_wp2
      go_ret
      exact ⟨_, rfl, Nat.le_refl _, Hb2.out, hon⟩
end Go.Proofs.YtibojidpifgblaaDoor
