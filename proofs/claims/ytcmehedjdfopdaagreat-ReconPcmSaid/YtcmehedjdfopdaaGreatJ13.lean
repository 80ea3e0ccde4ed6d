/-
  The walk over package intra's corners where there are no edges, and Chroma. The walk over package intra's Chroma.
-/
import Derived.Test.YtcmehedjdfopdaaGreatJ11
namespace Go.Proofs.YtcmehedjdfopdaaGreat
open Go.RowKit

theorem pairN0 (w : World) (n : Nat) (a b : Value) (t : TypeId) : ((w.drewN n).alloc (.cells #[a, b] t)).cell? ⟨w.heap.size, 0, none⟩ = some a := cells_of (heap_alloc_at (w.drewN n) _) 0
theorem pairN1 (w : World) (n : Nat) (a b : Value) (t : TypeId) : ((w.drewN n).alloc (.cells #[a, b] t)).cell? ⟨w.heap.size, 1, none⟩ = some b := cells_of (heap_alloc_at (w.drewN n) _) 1
theorem IntSlice.nil (w : World) : IntSlice w (.slice none 0 0) [] := ⟨none, 0, rfl, .inl rfl⟩
theorem mean0 (b : Nat) (w : World) (k0 : w.cell? ⟨b, 0, none⟩ = some (.slice none 0 0)) (k1 : w.cell? ⟨b, 1, none⟩ = some (.slice none 0 0)) :
    Calls Tryz.prog 119 #[.slice (some ⟨b, 0, none⟩) 2 2] w fun e w' => e = .returned (.int .i64 128) ∧ w = w' :=
  intra_mean b _ _ [] [] w k0 k1 (IntSlice.nil w) (IntSlice.nil w) (by simp) (by simp) (by simp) (by simp)
def gap (k : Nat) : List Int := (List.range 4).map fun j => if j < k then 128 else 0
theorem gap_set (k : Nat) (h : k < 4) : (ints (gap k)).setIfInBounds k (.int .i64 128) = ints (gap (k + 1)) := by
  rcases (show k = 0 ∨ k = 1 ∨ k = 2 ∨ k = 3 by omega) with rfl | rfl | rfl | rfl <;> rfl

set_option maxRecDepth 100000 in
set_option maxHeartbeats 1600000 in
theorem corners0 (g : Nat) (s1 s2 co : Value) (T : TypeId) (w : World) (hg : w.heap[g]? = some (.cells #[s1, s2, co] T (0, 0))) (h1 : IntSlice w s1 []) (h2 : IntSlice w s2 []) :
    Calls Tryz.prog 112 #[.pointer (some ⟨g, 0, none⟩)] w fun e w' => e = .returned (.agg (ints [128, 128, 128, 128])) ∧ Only [] w w' := by
  obtain ⟨a1, p1, rfl, -⟩ := h1
  obtain ⟨a2, p2, rfl, -⟩ := h2
  have hgb := lt_of_block hg
  have Hg := Lib.hid hg
  clear hg
  obtain ⟨Z, hZ⟩ : ∃ z, z = ints [128, 128, 128, 128] := ⟨_, rfl⟩
  have HZ := Lib.hid hZ
  rw [← hZ]
  clear hZ
  go_enter Tryz.func112, Tryz.ntmps112
  go_wp2
  go_loopw [7] (fun q wr => ∃ k : Nat, k ≤ 4 ∧ q = .int .i64 k ∧ (∃ z : Array Value, z.size = 4 ∧ wr.heap[w.heap.size]? = some (.cells z 218 (0, 0))) ∧ wr.heap[w.heap.size + 1]? = some (.cells (ints (gap k)) 218 (0, 0)) ∧ Only [] w wr) (fun q _ => 4 - (intOf q).toNat)
  case atStart => exact ⟨0, by omega, rfl, ⟨_, rfl, heap_alloc_lt _ (heap_alloc_at w _)⟩, heap_alloc2_new _ _ _, ((Only.refl _ _).alloc _).alloc _⟩
  case round =>
    obtain ⟨k, hk, rfl, ⟨z, hz, hr⟩, hb, ho⟩ := hrel
    by_cases hlt : k < 4
    · have d0 : wr.cell? ⟨g, 0, none⟩ = some (.slice a1 0 p1) := by rw [cells_of (ho.heap Hg.out (by simp))]; rfl
      have d1 : wr.cell? ⟨g, 1, none⟩ = some (.slice a2 0 p2) := by rw [cells_of (ho.heap Hg.out (by simp))]; rfl
      have n2 : (2 : Int) ≠ 0 := by decide
      have w2 : IntKind.i64.wrap 2 = 2 := by decide
      have Hr := Lib.hid hr
      have Hb := Lib.hid hb
      have Ho := Lib.hid ho
      clear hr hb ho
      go_wp2
      go_quiet ((go_at_call 153; exact Calls.quiet_of_same ((part_none _ _ _ _).mono fun _ _ ⟨h1, h2⟩ => ⟨h1, h2.symm⟩)))
      go_wp2_with fail
      all_goals
        refine (mean0 wr.heap.size _ (pairN0 wr _ _ _ _) (pairN1 wr _ _ _ _)).mono ?_
        rintro r w8 ⟨rfl, rfl⟩
        obtain ⟨j, hj, hj4⟩ : ∃ j, j = k ∧ j < 4 := ⟨k, rfl, hlt⟩
        first | (have hk1 : k = 1 := (by omega); subst hk1) | (have hk1 : k = 2 := (by omega); subst hk1) | skip
        have O8 : Only [] wr ((wr.drewN nq).alloc (.cells #[.slice none 0 0, .slice none 0 0] 58)) := (((Only.refl [] wr).drewN nq).alloc _)
        have B8 := O8.heap Hb.out (by simp)
        have R8 := Lib.hid (O8.heap Hr.out (by simp))
        have P8 := Lib.hid (Ho.out.trans O8)
        generalize (wr.drewN nq).alloc (.cells #[.slice none 0 0, .slice none 0 0] 58) = w8 at *
        have hs8 := lt_of_block R8.out
        have R9 := Lib.hid (heap_set_other (b := w.heap.size + 1) (i := j) (.int .i64 128) R8.out (by omega))
        have B9 := Lib.hid (heap_set_same (i := j) (.int .i64 128) B8)
        have P9 := Lib.hid (P8.out.setCell (p := ⟨w.heap.size + 1, j, none⟩) (.inr (by simp)) (.int .i64 128))
        have z8 := free_of B8 j
        have c8 : w8.cell? ⟨w.heap.size + 1, j, none⟩ = some (.int .i64 ((gap j).getD j 0)) := by rw [cells_of B8, hj, ints_at _ _ (by simp [gap] <;> omega)]
        have k4 : (j : Int) < 4 := by omega
        rw [hj, gap_set _ (by omega)] at B9
        clear B8 R8 P8 O8 hs8 Hr Hb Ho
        subst hj
        go_wp2
        go_roundw
        case rel => first
          | exact ⟨_, by omega, by go_num, ⟨z, hz, R9.out⟩, B9.out, P9.out⟩
          | exact ⟨2, by omega, by go_num, ⟨z, hz, R9.out⟩, B9.out, P9.out⟩
          | exact ⟨3, by omega, by go_num, ⟨z, hz, R9.out⟩, B9.out, P9.out⟩
          | exact ⟨j + 1, by omega, by go_num, ⟨z, hz, R9.out⟩, B9.out, P9.out⟩
        case measure => simp [intOf] <;> omega
    · obtain rfl : k = 4 := by omega
      have S1 := Lib.hid hr
      have S2 := Lib.hid hb
      have Ho := Lib.hid ho
      have Hz2 := Lib.hid hz
      clear hr hb ho hz
      have hzs : Z.size = 4 := by rw [HZ.out]; rfl
      have hz1 : Z.all (·.oneCell') = true := by rw [HZ.out]; exact ints_one _
      have Hzs := Lib.hid hzs
      have Hz1 := Lib.hid hz1
      have S3 : Hid (wr.heap[w.heap.size + 1]? = some (.cells Z 218 (0, 0))) := Lib.hid (by rw [S2.out, HZ.out]; rfl)
      clear hzs hz1 S2
      go_wp2_with (first
        | (with_reducible refine wpList_load_row rfl _ _ rfl _ rfl _ _ _ _ S3.out Tryz.underlying218 rfl (by rw [Hzs.out]; kernel_rfl) ?_)
        | (refine wpList_store_agg rfl _ _ _ rfl _ _ rfl rfl S1.out (by rw [Hzs.out]; kernel_rfl) (by rw [Hz2.out, Hzs.out]) Hz1.out ?_))
      intro w8 hw8 ho8
      have W8 := Lib.hid hw8
      have O8 := Lib.hid (Ho.out.trans' ho8 (by simp))
      clear hw8 ho8
      go_wp2
      exact ret_cell rfl _ rfl W8.out Tryz.underlying218 rfl (by rw [Hzs.out]; kernel_rfl) rfl ⟨rfl, O8.out⟩
end Go.Proofs.YtcmehedjdfopdaaGreat

namespace Go.Proofs.YtcmehedjdfopdaaGreat
open Go.RowKit

theorem ent_left8 (c : Array Value) (w : World) : (callFunc 111 c).run Tryz.prog w = .ok (.enter 111 c) w := run_enter Tryz.func111 (by kernel_rfl) (by kernel_rfl) c w
theorem ent_four (c : Array Value) (w : World) : (callFunc 113 c).run Tryz.prog w = .ok (.enter 113 c) w := run_enter Tryz.func113 (by kernel_rfl) (by kernel_rfl) c w

theorem chroma_four {w : World} {c : Nat} {Tc : TypeId} (m : Int) (hc : w.heap[c]? = some (.cells (ints [m, m, m, m]) Tc (0, 0))) (x y : Nat) (hx : x < 8) (hy : y < 8) :
    Calls Tryz.prog 113 #[.int .i64 (x : Int), .int .i64 (y : Int), .pointer (some ⟨c, 0, none⟩)] w fun e w' => e = .returned (.int .i64 m) ∧ w = w' := by
  have c0 : w.cell? ⟨c, 0, none⟩ = some (.int .i64 m) := by rw [cells_of hc]; rfl
  have c1 : w.cell? ⟨c, 1, none⟩ = some (.int .i64 m) := by rw [cells_of hc]; rfl
  have c2 : w.cell? ⟨c, 2, none⟩ = some (.int .i64 m) := by rw [cells_of hc]; rfl
  have c3 : w.cell? ⟨c, 3, none⟩ = some (.int .i64 m) := by rw [cells_of hc]; rfl
  clear hc
  obtain ⟨a, ha, ha2⟩ : ∃ a : Int, (x : Int) / 4 = a ∧ (a = 0 ∨ a = 1) := ⟨_, rfl, by omega⟩
  obtain ⟨b, hb, hb2⟩ : ∃ b : Int, (y : Int) / 4 = b ∧ (b = 0 ∨ b = 1) := ⟨_, rfl, by omega⟩
  rcases ha2 with rfl | rfl <;> rcases hb2 with rfl | rfl
  all_goals
    go_enter Tryz.func113, Tryz.ntmps113
    go_wp2
    go_ret
    exact ⟨rfl, rfl⟩

set_option maxRecDepth 100000 in
set_option maxHeartbeats 1600000 in
theorem chroma_h (vl vt : Value) (xs : List Int) (corner : Int) (w : World) (hvl : IntSlice w vl xs) (hvt : IntSlice w vt []) (hl : xs.length = 8) (hx : ∀ i, i < xs.length → 0 ≤ xs.getD i 0 ∧ xs.getD i 0 ≤ 255) (c0 : -1 ≤ corner) (c1 : corner ≤ 255) :
    Calls Tryz.prog 83 #[.int .i64 1, vl, vt, .int .i64 corner] w fun e w' => ∃ v, e = .returned (.tuple #[v, .int .i64 0]) ∧ w'.ownsRow w.heap.size 3 1 v 64 ((flatL 8 (fun _ y => xs.getD y 0)).map (Value.int .i64)) ∧ Only [] w w' := by
  have hof := intra_of vl vt xs [] corner 8 8 w hvl hvt (.inr hl) (.inl rfl) (by omega) (by omega) hx (by simp) c0 c1
  obtain ⟨ao, cap, rfl, -⟩ := hvl
  obtain ⟨ap, cup, rfl, -⟩ := hvt
  rw [hl] at hof ⊢
  have Hof := Lib.hid hof
  have Hl := Lib.hid hl
  clear hof hl hx
  go_enter Tryz.func83, Tryz.ntmps83
  go_wp2_with fail
  refine Hof.out.mono ?_
  rintro r w1 ⟨g, s1, s2, rfl, hg, hs1, hs2, hge, ho⟩
  obtain ⟨a1, p1, rfl, q1⟩ := id hs1
  obtain ⟨a2, p2, rfl, q2⟩ := id hs2
  rw [Hl.out] at hg hs1
  have Hg := Lib.hid hg
  have Hs1 := Lib.hid hs1
  have Hs2 := Lib.hid hs2
  have Ho := Lib.hid ho
  clear hg hs1 hs2 ho q1 q2
  go_wp2_with fail
  refine (intra_flat8 111 _ (fun _ y => xs.getD y 0) _ ent_left8 (fun wr x y hw _ hy => chroma_left (hw.heap (heap_alloc_at w1 _) (by simp)) (hw.heap (heap_alloc_lt _ Hg.out) (by simp)) ((Hs1.out.on ((Only.refl [] w1).alloc _)).on hw) x y (by rw [Hl.out]; exact hy))).mono ?_
  rintro r w2 ⟨v, rfl, hv, hw⟩
  have hv2 : w2.ownsRow w.heap.size 3 1 v 64 ((flatL 8 (fun _ y => xs.getD y 0)).map (Value.int .i64)) := own_mono hv (by have := Ho.out.size; simp; omega)
  have Hv := Lib.hid hv2
  have Hw : Hid (Only [] w w2) := Lib.hid ((Ho.out.alloc _).trans hw)
  clear hv hv2 hw
  go_wp2
  go_ret2
  exact ⟨_, rfl, Hv.out, Hw.out⟩

set_option maxRecDepth 100000 in
set_option maxHeartbeats 1600000 in
theorem chroma_no (m : Int) (hm : m = 1 ∨ m = 2 ∨ m = 3) (vl vt : Value) (corner : Int) (w : World) (hvl : IntSlice w vl []) (hvt : IntSlice w vt []) (c0 : -1 ≤ corner) (c1 : corner ≤ 255) :
    Calls Tryz.prog 83 #[.int .i64 m, vl, vt, .int .i64 corner] w fun e w' => e = .returned (.tuple #[.slice none 0 0, .int .i64 1101]) ∧ Only [] w w' := by
  have hof := intra_of vl vt [] [] corner 8 8 w hvl hvt (.inl rfl) (.inl rfl) (by omega) (by omega) (by simp) (by simp) c0 c1
  obtain ⟨ao, cap, rfl, -⟩ := hvl
  obtain ⟨ap, cup, rfl, -⟩ := hvt
  have Hof := Lib.hid hof
  clear hof
  rcases hm with rfl | rfl | rfl
  all_goals
    go_enter Tryz.func83, Tryz.ntmps83
    go_wp2_with fail
    refine Hof.out.mono ?_
    rintro r w1 ⟨g, s1, s2, rfl, hg, hs1, hs2, hge, ho⟩
    obtain ⟨a1, p1, rfl, -⟩ := hs1
    obtain ⟨a2, p2, rfl, -⟩ := hs2
    have d0 : w1.cell? ⟨g, 0, none⟩ = some (.slice a1 0 p1) := by rw [cells_of hg]; rfl
    have hgb := lt_of_block hg
    have Ho := Lib.hid ho
    clear hg ho
    go_wp2
    go_ret2
    exact ⟨rfl, Ho.out.alloc _⟩


set_option maxRecDepth 100000 in
set_option maxHeartbeats 1600000 in
theorem chroma_dc0 (vl vt : Value) (corner : Int) (w : World) (hvl : IntSlice w vl []) (hvt : IntSlice w vt []) (c0 : -1 ≤ corner) (c1 : corner ≤ 255) :
    Calls Tryz.prog 83 #[.int .i64 0, vl, vt, .int .i64 corner] w fun e w' => ∃ v, e = .returned (.tuple #[v, .int .i64 0]) ∧ w'.ownsRow w.heap.size 3 1 v 64 ((flatL 8 (fun _ _ => 128)).map (Value.int .i64)) ∧ Only [] w w' := by
  have hof := intra_of vl vt [] [] corner 8 8 w hvl hvt (.inl rfl) (.inl rfl) (by omega) (by omega) (by simp) (by simp) c0 c1
  obtain ⟨ao, cap, rfl, -⟩ := hvl
  obtain ⟨ap, cup, rfl, -⟩ := hvt
  have Hof := Lib.hid hof
  clear hof
  obtain ⟨L, hL⟩ : ∃ L, L = flatL 8 (fun _ _ => 128) := ⟨_, rfl⟩
  rw [← hL]
  have HL := Lib.hid hL
  clear hL
  go_enter Tryz.func83, Tryz.ntmps83
  go_wp2_with fail
  refine Hof.out.mono ?_
  rintro r w1 ⟨g, s1, s2, rfl, hg, hs1, hs2, hge, ho⟩
  have hco := fun (wx : World) (hw : Only [] w1 wx) => corners0 g s1 s2 _ _ wx (hw.heap hg (by simp)) (hs1.on hw) (hs2.on hw)
  have Hco := Lib.hid hco
  have hgb := lt_of_block hg
  have Ho := Lib.hid ho
  obtain ⟨a1, p1, rfl, -⟩ := hs1
  obtain ⟨a2, p2, rfl, -⟩ := hs2
  clear hg ho hco
  obtain ⟨Z, hZ⟩ : ∃ Z, Z = ints [128, 128, 128, 128] := ⟨_, rfl⟩
  rw [← hZ] at Hco
  have HZ := Lib.hid hZ
  clear hZ
  go_wp2_with fail
  refine (Hco.out _ ((Only.refl [] w1).alloc _)).mono ?_
  rintro r w2 ⟨rfl, ho2⟩
  have Ho2 : Hid (Only [] w w2) := Lib.hid ((Ho.out.alloc _).trans ho2)
  have hzs : Z.size = 4 := by rw [HZ.out]; rfl
  have hz1 : Z.all (·.oneCell') = true := by rw [HZ.out]; exact ints_one _
  have Hzs := Lib.hid hzs
  have Hz1 := Lib.hid hz1
  clear ho2 hzs hz1 Ho Hco
  go_wp2_with (refine wpList_store_agg rfl _ _ _ rfl _ _ rfl rfl (heap_alloc_at w2 _) (by rw [Hzs.out]; kernel_rfl) (by rw [Hzs.out]; rfl) Hz1.out ?_)
  intro w8 hw8 ho8
  have W8 : Hid (w8.heap[w2.heap.size]? = some (.cells (ints [128, 128, 128, 128]) 218 (0, 0))) := Lib.hid (by rw [hw8, HZ.out])
  have O8 := Lib.hid (((Ho2.out.alloc _).trans' ho8 (by have := Ho2.out.size; simp; omega)))
  clear hw8 ho8
  go_wp2_with fail
  refine (intra_flat8 113 (.pointer (some ⟨w2.heap.size, 0, none⟩)) (fun _ _ => 128) _ ent_four (fun wr x y hw hx hy => chroma_four 128 (hw.heap W8.out (by simp)) x y hx hy)).mono ?_
  rintro r w3 ⟨v, rfl, hv, hw⟩
  have hv2 : w3.ownsRow w.heap.size 3 1 v 64 (L.map (Value.int .i64)) := by rw [HL.out]; exact own_mono hv O8.out.size
  have Hv := Lib.hid hv2
  have Hw := Lib.hid (O8.out.trans hw)
  clear hv hv2 hw
  go_wp2
  go_ret2
  exact ⟨_, rfl, Hv.out, Hw.out⟩
end Go.Proofs.YtcmehedjdfopdaaGreat
