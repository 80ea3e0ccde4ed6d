/-
  The walks over zoetropelaw0's CopyInts, LendInts, KeptInts, SpoilInts (of a row that was handed out).
-/
import Derived.Test.YtgmnkihldlajcaaGreatDoorPlain
import Derived.Test.YtgmnkihldlajcaaGreatDoorEngG
import Derived.Laws.AppendOwnNone
namespace Go.Proofs.YtgmnkihldlajcaaGreatDoor
open Go.RowKit

theorem elt64' : Elt Tryz.prog 25 3 (.int .i64 0) 1 8 := elt64
/-- An empty literal is an owned row of nothing. -/
theorem ownsRow_empty (w : World) (e : TypeId) (B : Nat) (hB : B ≤ w.heap.size) : (w.alloc (.cells #[] e)).ownsRow B e 1 (.slice (some ⟨w.heap.size, 0, none⟩) 0 0) 0 [] :=
  ⟨by simp, .inr ⟨w.heap.size, 0, #[], rfl, hB, heap_alloc_at _ _, by omega, by unfold maxLen; omega, by simp, by simp⟩⟩

set_option maxRecDepth 100000 in
set_option maxHeartbeats 800000 in
theorem copy_ints (v : Value) (xs : List Int) (w : World) (hv : IntSlice w v xs) (hz : ∀ c, v = .slice none xs.length c → c = 0) (hl : xs.length ≤ 17592186044414) :
    Calls Tryz.prog 22 #[v] w fun e w' => ∃ v', e = .returned v' ∧ w'.ownsRow w.heap.size 3 1 v' xs.length (xs.map (Value.int .i64)) ∧ Only [] w w' := by
  obtain ⟨ao, cap, rfl, ha⟩ := hv
  have hoe := ownsRow_empty w 3 w.heap.size (Nat.le_refl _)
  have hon : Only [] w (w.alloc (.cells #[] 3)) := (Only.refl _ _).alloc _
  obtain ⟨i0, hi, hiz, his, hib⟩ := info_parts elt64.hi
  rcases Nat.eq_zero_or_pos xs.length with h0 | h0
  · have hx : xs = [] := List.eq_nil_of_length_eq_zero h0
    subst hx
    have hz2 : ao = none → (0 : Nat) = 0 ∧ cap = 0 := by rintro rfl; exact ⟨rfl, hz cap rfl⟩
    have Hon := Lib.hid hon
    clear hon ha h0 hl hz
    go_enter Tryz.func22, Tryz.ntmps22
    go_wp2_with (at_builtin; refine wpList_append_fits_any _ rfl _ _ _ rfl w.heap.size _ i0 1 elt64.ht hi his w.heap.size 0 0 [] rfl hoe ao 0 cap [] rfl rfl hz2 (fun _ _ j u h => by simp at h) (by simp) (Nat.le_refl _) ?_)
    intro w2 h1 h2
    have H1 := Lib.hid h1
    have H2 := Lib.hid (Hon.out.grown h2 (fun k hk => by simp at hk; subst hk; exact .inr (Nat.le_refl _)))
    clear h1 h2 hoe hz2
    go_wp2
    go_ret
    exact ⟨_, rfl, H1.out, H2.out⟩
  · rcases ha with ha | ⟨g, off, rfl, ha⟩
    · rw [ha] at h0; simp at h0
    have hnews : ∀ j u, (xs.map (Value.int .i64))[j]? = some u → (w.alloc (.cells #[] 3)).cell? ((⟨g, off, none⟩ : Addr).add j) = some u := by
      intro j u hj
      rw [List.getElem?_map] at hj
      by_cases h : j < xs.length
      · simp only [List.getElem?_eq_getElem h, Option.map_some, Option.some.injEq] at hj
        have := hon.cell (ha j h) (by simp)
        simp only [List.getD, List.getElem?_eq_getElem h, Option.getD_some] at this
        rw [← hj, ← this, Addr.add_lit]
      · simp [List.getElem?_eq_none (by omega : xs.length ≤ j)] at hj
    have hn1 : ∀ u ∈ xs.map (Value.int .i64), u.oneCell' = true := by
      intro u hu
      obtain ⟨x, _, rfl⟩ := List.mem_map.1 hu
      rfl
    obtain ⟨L, hL⟩ : ∃ L, L = xs.length := ⟨_, rfl⟩
    obtain ⟨news, hnw⟩ : ∃ n, n = xs.map (Value.int .i64) := ⟨_, rfl⟩
    have hnl : news.length = L * 1 := by rw [hnw, hL]; simp
    rw [← hL] at h0 hl ⊢
    rw [← hnw] at hnews hn1 ⊢
    have Hon := Lib.hid hon
    clear hon hz ha hL hnw
    go_enter Tryz.func22, Tryz.ntmps22
    go_wp2_with (at_builtin; refine wpList_appendB rfl _ _ rfl elt64 w.heap.size (.slice (some ⟨w.heap.size, 0, none⟩) 0 0) 0 [] rfl hoe ⟨g, off, none⟩ L cap news rfl hnl hnews hn1 h0 (by omega) (by omega) (by simp) ?_)
    intro g2 cap2 w2 hp
    have h1 := ownsRow_cast (m := L) (ys := news) hp.1 (by omega) (by simp)
    have h2 : Only [] w w2 := Hon.out.grown hp.2.1 (fun k hk => by simp [Value.ownBlock] at hk; subst hk; exact .inr (Nat.le_refl _))
    have H1 := Lib.hid h1
    have H2 := Lib.hid h2
    clear hp hnews hn1 hoe h1 h2
    go_wp2
    go_ret
    exact ⟨_, rfl, ownsRow_cast H1.out rfl rfl, H2.out⟩

theorem two_new (w : World) (x y : Value) (t : TypeId) : ∀ j u, [x, y][j]? = some u → (w.alloc (.cells #[x, y] t)).cell? ((⟨w.heap.size, 0, none⟩ : Addr).add j) = some u := by
  intro j u hj
  match j, hj with
  | 0, hj => simp at hj; subst hj; simp [Addr.add]
  | 1, hj => simp at hj; subst hj; simp [Addr.add]
set_option maxRecDepth 100000 in
set_option maxHeartbeats 800000 in
theorem lend_ints (v : Value) (xs : List Int) (w : World) (hv : IntSlice w v xs) (hz : ∀ c, v = .slice none xs.length c → c = 0) (hl : xs.length ≤ 17592186044414) :
    Calls Tryz.prog 8 #[v] w fun e w' => ∃ g cap, e = .returned (.slice (some ⟨g, 0, none⟩) xs.length cap) ∧ w.heap.size ≤ g ∧ xs.length + 2 ≤ cap ∧
      w'.ownsRow w.heap.size 3 1 (.slice (some ⟨g, 0, none⟩) (xs.length + 2) cap) (xs.length + 2) ((xs ++ [-7777, -8888]).map (Value.int .i64)) ∧ Only [] w w' := by
  have Hc := Lib.hid (copy_ints v xs w hv hz hl)
  obtain ⟨ao, cap, rfl, -⟩ := hv
  obtain ⟨L, hL⟩ : ∃ L, L = xs.length := ⟨_, rfl⟩
  obtain ⟨news, hnw⟩ : ∃ n, n = xs.map (Value.int .i64) := ⟨_, rfl⟩
  rw [← hL] at hl Hc ⊢
  rw [← hnw] at Hc
  have Hnw := Lib.hid hnw
  clear hz hL hnw
  go_enter Tryz.func8, Tryz.ntmps8
  go_wp2_with fail
  refine Hc.out.mono ?_
  rintro r w1 ⟨v1, rfl, h1, h2⟩
  have hsz := h2.size
  have H2 := Lib.hid h2
  have hown : ∀ k, v1.ownBlock = some k → w.heap.size ≤ k := fun k hk => by
    rcases h1.2 with ⟨rfl, _⟩ | ⟨g', cap', cur', rfl, hb', _⟩
    · simp [Value.ownBlock] at hk
    · simp [Value.ownBlock] at hk; subst hk; exact hb'
  have Hown := Lib.hid hown
  clear h2 hown
  go_wp2_with (at_builtin; refine wpList_appendB rfl _ _ rfl elt64 w.heap.size _ _ _ rfl (h1.alloc _) ⟨w1.heap.size, 0, none⟩ 2 2 [.int .i64 (-7777), .int .i64 (-8888)] rfl rfl (two_new _ _ _ _) (by simp [Value.oneCell']) (by decide) (by omega) (by omega) (by simp; omega) ?_)
  intro g cap2 w2 hp
  have hp := hp.of_alloc
  have h3 : w2.ownsRow w.heap.size 3 1 (.slice (some ⟨g, 0, none⟩) (L + 2) cap2) (L + 2) ((xs ++ [-7777, -8888]).map (Value.int .i64)) := ownsRow_cast hp.1 rfl (by rw [Hnw.out]; simp)
  have h4 : Only [] w w2 := H2.out.grown hp.2.1 (fun k hk => .inr (Hown.out k hk))
  obtain ⟨hg, hcap⟩ : w.heap.size ≤ g ∧ L + 2 ≤ cap2 := by
    rcases h3.2 with ⟨h, _⟩ | ⟨g', cap', cur', h, hb', _, hc', _⟩
    · simp at h
    · simp only [Value.slice.injEq, Option.some.injEq, Addr.mk.injEq] at h
      obtain ⟨⟨rfl, -⟩, -, rfl⟩ := h
      exact ⟨hb', hc'⟩
  have H3 := Lib.hid h3
  have H4 := Lib.hid h4
  have hcm : cap2 ≤ maxLen := by
    rcases h3.2 with ⟨h, _⟩ | ⟨g', cap', cur', h, _, _, _, hm, _⟩
    · simp at h
    · simp only [Value.slice.injEq, Option.some.injEq, Addr.mk.injEq] at h
      obtain ⟨-, -, rfl⟩ := h
      exact hm
  unfold maxLen at hcm
  clear hp h1 h3 h4
  go_wp2
  go_ret
  exact ⟨g, cap2, rfl, hg, hcap, H3.out, H4.out⟩

set_option maxRecDepth 100000 in
set_option maxHeartbeats 800000 in
theorem kept_ints (v : Value) (xs : List Int) (g cap B : Nat) (w : World) (hv : IntSlice w v xs) (hc : xs.length + 2 ≤ cap)
    (ho : w.ownsRow B 3 1 (.slice (some ⟨g, 0, none⟩) (xs.length + 2) cap) (xs.length + 2) ((xs ++ [-7777, -8888]).map (Value.int .i64))) (hl : xs.length ≤ 17592186044414) :
    Calls Tryz.prog 12 #[.slice (some ⟨g, 0, none⟩) xs.length cap, v] w fun e w' => e = .returned (.bool true) ∧ Only [] w w' := by
  have hu : IntSlice w (.slice (some ⟨g, 0, none⟩) xs.length cap) xs := by
    refine ⟨_, _, rfl, .inr ⟨g, 0, rfl, fun i hi => ?_⟩⟩
    rw [Nat.zero_add, ho.cellAt i (by omega)]
    rw [List.map_append, List.getElem?_append_left (by simpa using hi)]
    simp [List.getD, List.getElem?_eq_getElem hi]
  have c1 : w.cell? ⟨g, xs.length, none⟩ = some (.int .i64 (-7777)) := by rw [ho.cellAt (xs.length) (by omega)]; simp
  have c2 : w.cell? ⟨g, xs.length + 1, none⟩ = some (.int .i64 (-8888)) := by
    rw [ho.cellAt (xs.length + 1) (by omega)]
    simp
  have Hs := Lib.hid (same_ints (.slice (some ⟨g, 0, none⟩) xs.length cap) v xs xs w hu hv (by omega) (by omega))
  obtain ⟨ao, cap2, rfl, -⟩ := hv
  obtain ⟨L, hL⟩ : ∃ L, L = xs.length := ⟨_, rfl⟩
  rw [← hL] at hc hl c1 c2 Hs ⊢
  clear hu ho hL
  go_enter Tryz.func12, Tryz.ntmps12
  go_wp2_with fail
  refine Hs.out.mono ?_
  rintro r w1 ⟨rfl, h1⟩
  have hd : decide (xs = xs) = true := decide_eq_true rfl
  try rw [hd]
  try rw [decide_true]
  clear hd
  have d1 := h1.cell c1 (by simp)
  have d2 := h1.cell c2 (by simp)
  have H1 := Lib.hid h1
  clear h1 c1 c2 Hs
  go_wp2
  go_ret
  exact ⟨rfl, H1.out⟩

end Go.Proofs.YtgmnkihldlajcaaGreatDoor
