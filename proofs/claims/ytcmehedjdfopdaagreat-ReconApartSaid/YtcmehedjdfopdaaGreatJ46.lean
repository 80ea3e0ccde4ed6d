/-
  The walk over the law ReconApart.
-/
import Derived.Test.YtcmehedjdfopdaaGreatJ45
import Derived.Test.YtcmehedjdfopdaaGreatJ41
namespace Go.Proofs.YtcmehedjdfopdaaGreat
open Go Go.RowKit

theorem mbSetP (pb : Nat) : (Tryz.zeroCells48.setIfInBounds 0 (.int .i64 2)).setIfInBounds 482 (.slice (some ⟨pb, 0, none⟩) 384 384) = (mbL 2 0 0 0 0 z16 z28 (.slice (some ⟨pb, 0, none⟩) 384 384)).toArray := by kernel_rfl
theorem raw_two {wx : World} {cb yb ub vb cy cu cv : Nat} {al cur : Value} {aft u : Int} (hc : CanAt wx cb yb ub vb cy cu cv 2 1 (List.replicate 512 u) (List.replicate 128 u) (List.replicate 128 u) al cur aft) : Calls Tryz.prog 17 #[.pointer (some ⟨cb, 0, none⟩)] wx fun e w' => ∃ y z v, e = .returned (.agg #[.int .i64 32, .int .i64 16, y, z, v]) ∧ BytesAt w' y (List.replicate 512 u) ∧ BytesAt w' z (List.replicate 128 u) ∧ BytesAt w' v (List.replicate 128 u) ∧ Only [] wx w' := by
  refine (canvas_raw (ny := 512) (nu := 128) (nv := 128) hc List.length_replicate List.length_replicate List.length_replicate (by omega) (by omega) (by omega) (by omega) (by omega) (by omega)).mono ?_
  rintro e w' ⟨f, rfl, ⟨g1, p1, g2, p2, g3, p3, rfl, h1, h2, h3⟩, ho⟩
  exact ⟨_, _, _, rfl, BytesAt.own h1 List.length_replicate.symm List.length_replicate.symm, BytesAt.own h2 List.length_replicate.symm List.length_replicate.symm, BytesAt.own h3 List.length_replicate.symm List.length_replicate.symm, ho⟩
theorem grey_two (u : Int) (wx : World) : Calls Tryz.prog 18 #[.int .i64 32, .int .i64 16, .int .u8 u] wx fun e w' => ∃ y z v, e = .returned (.agg #[.int .i64 32, .int .i64 16, y, z, v]) ∧ BytesAt w' y (List.replicate 512 u) ∧ BytesAt w' z (List.replicate 128 u) ∧ BytesAt w' v (List.replicate 128 u) ∧ Only [] wx w' :=
  grey 512 128 (by decide) (by decide) (by omega)

set_option maxRecDepth 100000 in
set_option maxHeartbeats 6400000 in
theorem law_apart_same (v : Int) (w : World) : Calls Tryz.prog 7 #[.int .i64 v, .bool false] w fun e w' => e = .returned (.bool true) ∧ Only [] w w' := by
  obtain ⟨u, hu⟩ : ∃ u, IntKind.u8.wrap v = u := ⟨_, rfl⟩
  have hur : 0 ≤ u ∧ u ≤ 255 := by rw [← hu, IntKind.wrap_u8]; omega
  obtain ⟨HL, hHL⟩ : ∃ HL, HL = headL 0 2 30 := ⟨_, rfl⟩
  have hu27 := Tryz.underlying27
  have hi27 : (Tryz.prog.info? 27).map (·.size) = some HL.length := by rw [hHL]; kernel_rfl
  have hdr : ∀ wx, Calls Tryz.prog 11 #[.int .i64 2, .agg HL.toArray, .agg #[.bool false, .bool false, .int .i64 0, .int .i64 0, .int .i64 0, .bool false, .bool false, .int .i64 1, .int .i64 1], .slice none 0 0, .slice none 0 0, .int .i64 0] wx (DrawnOut 2 2 30 wx) := fun wx => by
    rw [hHL]
    exact law_drawn 2 2 (.inr rfl) (by omega) (by omega) 30 (by omega) (by omega) wx
  have Hi27 := Lib.hid hi27
  have Hdr := Lib.hid hdr
  have Hu27 := Lib.hid hu27
  have HHL := Lib.hid hHL
  clear hHL hi27 hdr hu27
  go_enter Tryz.func7, Tryz.ntmps7
  go_wp2_with fail
  refine (awake22 _).mono ?_
  rintro e w1 ⟨rfl, o1⟩
  have O1 := Lib.hid o1
  clear o1
  go_wp2_with (refine wpList_store_agg rfl _ _ _ rfl w1.heap.size #[.int .i64 0, .int .i64 2, .int .i64 2, .int .i64 0, .int .i64 0, .int .i64 0, .bool false, .int .i64 0, .int .i64 0, .slice none 0 0, .slice none 0 0, .int .i64 0, .int .i64 0, .slice none 0 0, .slice none 0 0, .bool false, .slice none 0 0, .int .i64 30, .bool false, .int .i64 0, .int .i64 0] rfl rfl (heap_alloc_at w1 _) (by kernel_rfl) (by kernel_rfl) (by simp [Value.oneCell']) ?_)
  intro w2 hw2 ho2
  have hz1 := O1.out.size
  have O2 : Hid (Only [] w w2) := Lib.hid ((O1.out.alloc _).trans' ho2 (fun i hi => .inr (by simp only [List.mem_singleton] at hi; omega)))
  have HD2 : Hid (w2.heap[w1.heap.size]? = some (.cells HL.toArray 27 (0, 0))) := Lib.hid (by rw [HHL.out]; exact hw2)
  clear hw2 ho2 O1
  generalize w1.heap.size = hb at *
  go_wp2_with fail
  have r27 : w2.rangeAt hb 0 HL := fun j v hj => by rw [Nat.zero_add, cells_of HD2.out, ← hj, List.getElem?_toArray]
  refine wp_region_L (by kernel_rfl) (fun w' => w'.rangeAt hb 0 HL ∧ Only [] w2 w') 7 ?_
  have hS0 : (fun w' => w'.rangeAt hb 0 HL ∧ Only [] w2 w') w2.drew := ⟨r27, (Only.refl [] w2).drew⟩
  refine AnyL.take 0 rfl (by kernel_rfl) (by kernel_rfl) (by kernel_rfl) (by kernel_rfl) (fun _ _ _ h => h) (by assumption) (yieldsIf_load_mid (by rfl) _ _ rfl hb 0 rfl HL _ (fun w' h => h.1) Hu27.out rfl Hi27.out) ?_
  try simp only [Act.put, List.setIfInBounds_toArray, List.set_cons_zero, List.set_cons_succ]
  obtain ⟨t1, t2⟩ := hS0
  refine AnyL.one 1 (by kernel_rfl) rfl (fun K hK => ?_)
  go_simp
  go_at_call 12
  refine (law_plain _).mono ?_
  rintro e wp ⟨rfl, op⟩
  refine hK _ _ (fun _ => ⟨range_only t1 op (by simp), t2.trans op⟩) (fun _ => ?_)
  clear hK K
  try simp only [Act.put, List.setIfInBounds_toArray, List.set_cons_zero, List.set_cons_succ]
  refine AnyL.one 2 (by kernel_rfl) rfl (fun K hK => ?_)
  go_simp
  go_at_call 11
  refine (Hdr.out _).mono ?_
  rintro e wd ⟨cb, yb, ub, vb, sb, rfl, hc, hs, l1, l2, l3, l4, l5, od⟩
  have t3 := (t2.trans op).trans od
  have t4 := range_only (range_only t1 op (by simp)) od (by simp)
  have hzp := (t2.trans op).size
  refine hK _ _ (fun _ => ⟨t4, t3⟩) (fun _ => ?_)
  clear hK K
  try simp only [Act.put, List.setIfInBounds_toArray, List.set_cons_zero, List.set_cons_succ]
  have hS0 : (fun w' => w'.rangeAt hb 0 HL ∧ Only [] w2 w') wd := ⟨t4, t3⟩
  refine AnyL.take 3 (v := ?_) rfl (by kernel_rfl) (by kernel_rfl) (by kernel_rfl) (by kernel_rfl) (fun _ _ _ h => h) (by assumption) (Or.inl ⟨by rfl, ?_⟩) ?_
  rotate_left
  · (intro w' hSw; (try dsimp only at hSw); go_simp; try (with_reducible rfl))
  try simp only [Act.put, List.setIfInBounds_toArray, List.set_cons_zero, List.set_cons_succ]
  refine AnyL.take 4 (v := ?_) rfl (by kernel_rfl) (by kernel_rfl) (by kernel_rfl) (by kernel_rfl) (fun _ _ _ h => h) (by assumption) (Or.inl ⟨by rfl, ?_⟩) ?_
  rotate_left
  · (intro w' hSw; (try dsimp only at hSw); go_simp; try (with_reducible rfl))
  try simp only [Act.put, List.setIfInBounds_toArray, List.set_cons_zero, List.set_cons_succ]
  refine AnyL.take 5 (v := ?_) rfl (by kernel_rfl) (by kernel_rfl) (by kernel_rfl) (by kernel_rfl) (fun _ _ _ h => h) (by assumption) (Or.inl ⟨by rfl, ?_⟩) ?_
  rotate_left
  · (intro w' hSw; (try dsimp only at hSw); go_simp; try (with_reducible rfl))
  try simp only [Act.put, List.setIfInBounds_toArray, List.set_cons_zero, List.set_cons_succ]
  refine AnyL.take 6 (v := ?_) rfl (by kernel_rfl) (by kernel_rfl) (by kernel_rfl) (by kernel_rfl) (fun _ _ _ h => h) (by assumption) (Or.inl ⟨by rfl, ?_⟩) ?_
  rotate_left
  · (intro w' hSw; (try dsimp only at hSw); go_simp; try (with_reducible rfl))
  try simp only [Act.put, List.setIfInBounds_toArray, List.set_cons_zero, List.set_cons_succ]
  refine AnyL.one 7 (by kernel_rfl) rfl (fun K hK => ?_)
  go_simp
  refine hK _ _ (fun h => (h rfl).elim) (fun _ => ?_)
  clear hK K
  try simp only [Act.put, List.setIfInBounds_toArray, List.set_cons_zero, List.set_cons_succ]
  refine AnyL.done (by kernel_rfl) ?_ _
  have C3 : Hid (CanAt wd cb yb ub vb 512 128 128 2 1 (List.replicate 512 128) (List.replicate 128 128) (List.replicate 128 128) (.slice none 0 0) (.pointer (some ⟨sb, 0, none⟩)) ((0 + 2 : Nat) : Int)) := Lib.hid hc
  have S3 := Lib.hid hs
  have O3 := Lib.hid (O2.out.trans t3)
  have HD3 := Lib.hid (t3.heap HD2.out (by simp))
  have hz2 := O2.out.size
  have L1 : w.heap.size ≤ cb ∧ w.heap.size ≤ yb ∧ w.heap.size ≤ ub ∧ w.heap.size ≤ vb ∧ w.heap.size ≤ sb := by omega
  have hlb := lt_of_block HD2.out
  have hne : hb ∉ [yb, ub, vb, sb, cb] := by simp only [List.mem_cons, List.not_mem_nil, or_false]; omega
  have HNE := Lib.hid hne
  have HL1 := Lib.hid L1
  clear hc hs l1 l2 l3 l4 l5 od t1 t2 t3 t4 op r27 hzp HD2 O2 hlb hne L1 hS0
  generalize wd = w3 at *
  go_wp2_with (refine wpList_make1 rfl _ _ rfl elt8 rfl 384 rfl rfl (by simp) (by simp) (by decide) (by omega) ?_)
  intro w4 hw4 ho4 hs4
  obtain ⟨f, hf⟩ : ∃ f : Nat → Int, f = fun _ => u := ⟨_, rfl⟩
  rw [u8s_replicate, ← fillTo_zero f] at hw4
  have hfu : ∀ i, f i = u := fun i => by rw [hf]
  have W4 := Lib.hid hw4
  have O4 := Lib.hid ho4
  have HFU := Lib.hid hfu
  have hpn : w3.heap.size ≠ cb ∧ w3.heap.size ≠ yb ∧ w3.heap.size ≠ ub ∧ w3.heap.size ≠ vb ∧ w3.heap.size ≠ sb := by
    have n1 := lt_of_block C3.out.st
    have n2 := lt_of_block C3.out.ys.choose_spec
    have n3 := lt_of_block C3.out.us.choose_spec
    have n4 := lt_of_block C3.out.vs.choose_spec
    have n5 := lt_of_block S3.out
    omega
  have HPN := Lib.hid hpn
  have hz3 := O3.out.size
  clear hw4 ho4 hs4 hfu hf hpn
  generalize hpb : w3.heap.size = pb at *
  go_wp2
  go_loopw [9] (fun q wr => ∃ k : Nat, k ≤ 384 ∧ q = .int .i64 k ∧ wr.heap[pb]? = some (.cells (u8s (fillTo f 384 k)) 5 (0, 0)) ∧ Only [] w3 wr) (fun q _ => 384 - (intOf q).toNat)
  case atStart => exact ⟨0, by omega, rfl, W4.out, O4.out⟩
  case round =>
    obtain ⟨k, hk, rfl, hc, ho⟩ := hrel
    by_cases hlt : k < 384
    · have c2 : wr.cell? ⟨pb, k, none⟩ = some (.int .u8 ((fillTo f 384 k).getD k 0)) := by rw [cells_of hc, u8s_at _ _ (by rw [fillTo_length]; exact hlt)]
      have z2 := free_of hc k
      have C2 := Lib.hid (heap_set_same (i := k) (.int .u8 u) hc)
      have O5 := Lib.hid (ho.setCell (p := ⟨pb, k, none⟩) (.inr (by simp only; omega)) (.int .u8 u))
      clear hc ho
      go_wp2
      go_roundw
      case rel => exact ⟨k + 1, by omega, by go_num, by have := C2.out; rw [u8s_setIf, fillTo_set f 384 k u (HFU.out k).symm] at this; exact this, O5.out⟩
      case measure => simp [intOf] <;> omega
    · obtain rfl : k = 384 := by omega
      have P5 := Lib.hid hc
      have O5 := Lib.hid (O3.out.trans ho)
      have C5 := Lib.hid (C3.out.only ho (by simp) (by simp) (by simp) (by simp))
      have S5 := Lib.hid (ho.heap S3.out (by simp))
      have HD5 := Lib.hid (ho.heap HD3.out (by simp))
      clear hc ho C3 S3 O3 HD3 W4 O4
      generalize wr = w5 at *
      have hset := mbSetP pb
      go_wp2_with fail
      refine (mb_pcm (B := w.heap.size) (n := 0) (wide := 2) (f := f) (pb := pb) (po := 0) C5.out (by omega) (by omega) (by omega) (by omega) (by omega) (World.ownsRow_nil _ _ _ _) S5.out HL1.out.1 (by simp) (by simp) (by simp) (fun k hk => by unfold spot; rw [List.length_replicate]; omega) (fun k hk => by unfold spot; rw [List.length_replicate]; omega) (fun k hk => by unfold spot; rw [List.length_replicate]; omega)
        (fun i hi => by
          rw [Nat.zero_add, cells_of P5.out, u8s_at _ _ (by rw [fillTo_length]; exact hi), fillTo_full]
          simp [List.getD, List.getElem?_map, List.getElem?_range hi]) (fun i hi => by rw [HFU.out i]; exact hur) HPN.out.2.1 HPN.out.2.2.1 HPN.out.2.2.2.1).mono ?_
      rintro e w6 ⟨rfl, p0, p1, p2, p3, ao, c6, Y', hG, hc, hown, hs, -, o6⟩
      have hfa : ∀ i, i < 384 → f i = u := fun i _ => HFU.out i
      have hY : Y' = halfY u := Eq.trans (show Y' = lumaP 2 0 0 f (List.replicate 512 128) from hG) (lumaP_half u f hfa)
      rw [hY] at hc
      clear hG hY
      change CanAt w6 cb yb ub vb 512 128 128 2 1 (halfY u) (chromaP 2 0 0 256 f (List.replicate 128 128)) (chromaP 2 0 0 320 f (List.replicate 128 128)) (.slice ao 1 c6) _ _ at hc
      rw [chromaP_half u f 256 (by omega) hfa, chromaP_half u f 320 (by omega) hfa] at hc
      have o6' : Only [yb, ub, vb, sb, cb] w5 w6 := by simpa [Value.ownBlock] using o6
      have C6 := Lib.hid hc
      have W6 := Lib.hid hown
      have S6 := Lib.hid hs
      have O6 := Lib.hid (O5.out.trans' o6' (fun i hi => .inr (by have := HL1.out; simp only [List.mem_cons, List.not_mem_nil, or_false] at hi; omega)))
      have HD6 := Lib.hid (o6'.heap HD5.out HNE.out)
      clear hc hown hs o6 o6' hset C5 S5 O5 HD5 P5 hfa
      have hset2 := mbSet16c 1 1 30
      go_wp2_with fail
      refine (mb_second (B := w.heap.size) C6.out W6.out S6.out HL1.out.1 hur.1 hur.2).mono ?_
      rintro e w7 ⟨rfl, ao', c7, hc, o7⟩
      have C7 := Lib.hid hc
      have O7 := Lib.hid (O6.out.trans' o7 (fun i hi => .inr (by
        have h1 := HL1.out
        have h2 := own_geN W6.out
        simp only [List.mem_append, List.mem_cons, List.not_mem_nil, or_false] at hi
        rcases hi with hi | hi
        · omega
        · exact h2 i (by simpa using hi))))
      clear hc o7 hset2 C6 W6 S6 O6 HD6
      go_wp2_with (first
        | (go_at_call 14; refine (num_any _ _).mono ?_; rintro e w' ⟨rfl, rfl⟩)
        | (go_at_call 15; refine (canvas_done C7.out).mono ?_; rintro e w' ⟨rfl, rfl⟩))
      refine (raw_two C7.out).mono ?_
      rintro e w8 ⟨ya, ua, va, rfl, a1, a2, a3, o8⟩
      go_wp2_with fail
      refine (grey_two u _).mono ?_
      rintro e w9 ⟨yg, ug, vg, rfl, b1, b2, b3, o9⟩
      have SF := Lib.hid (same_frame (W := 32) (H := 16) (a1.only o9) b1 (a2.only o9) b2 (a3.only o9) b3)
      have O9 := Lib.hid ((O7.out.trans o8).trans o9)
      clear a1 a2 a3 b1 b2 b3 o8 o9
      go_wp2_with fail
      refine SF.out.mono ?_
      rintro e w10 ⟨rfl, o10⟩
      have O10 := Lib.hid (O9.out.trans o10)
      clear o10
      go_wp2
      go_ret
      exact ⟨rfl, O10.out⟩

set_option maxRecDepth 100000 in
set_option maxHeartbeats 6400000 in
theorem law_apart_cut (v : Int) (w : World) : Calls Tryz.prog 7 #[.int .i64 v, .bool true] w fun e w' => e = .returned (.bool true) ∧ Only [] w w' := by
  obtain ⟨u, hu⟩ : ∃ u, IntKind.u8.wrap v = u := ⟨_, rfl⟩
  have hur : 0 ≤ u ∧ u ≤ 255 := by rw [← hu, IntKind.wrap_u8]; omega
  obtain ⟨HL, hHL⟩ : ∃ HL, HL = headL 0 1 30 := ⟨_, rfl⟩
  have hu27 := Tryz.underlying27
  have hi27 : (Tryz.prog.info? 27).map (·.size) = some HL.length := by rw [hHL]; kernel_rfl
  have hdr : ∀ wx, Calls Tryz.prog 11 #[.int .i64 2, .agg HL.toArray, .agg #[.bool false, .bool false, .int .i64 0, .int .i64 0, .int .i64 0, .bool false, .bool false, .int .i64 1, .int .i64 1], .slice none 0 0, .slice none 0 0, .int .i64 0] wx (DrawnOut 2 1 30 wx) := fun wx => by
    rw [hHL]
    exact law_drawn 2 1 (.inr rfl) (by omega) (by omega) 30 (by omega) (by omega) wx
  have Hi27 := Lib.hid hi27
  have Hdr := Lib.hid hdr
  have Hu27 := Lib.hid hu27
  have HHL := Lib.hid hHL
  clear hHL hi27 hdr hu27
  go_enter Tryz.func7, Tryz.ntmps7
  go_wp2_with fail
  refine (awake22 _).mono ?_
  rintro e w1 ⟨rfl, o1⟩
  have O1 := Lib.hid o1
  clear o1
  go_wp2_with (refine wpList_store_agg rfl _ _ _ rfl w1.heap.size #[.int .i64 0, .int .i64 2, .int .i64 2, .int .i64 0, .int .i64 0, .int .i64 0, .bool false, .int .i64 0, .int .i64 0, .slice none 0 0, .slice none 0 0, .int .i64 0, .int .i64 0, .slice none 0 0, .slice none 0 0, .bool false, .slice none 0 0, .int .i64 30, .bool false, .int .i64 0, .int .i64 0] rfl rfl (heap_alloc_at w1 _) (by kernel_rfl) (by kernel_rfl) (by simp [Value.oneCell']) ?_)
  intro w2 hw2 ho2
  have hz1 := O1.out.size
  have O2 : Hid (Only [] w w2) := Lib.hid ((O1.out.alloc _).trans' ho2 (fun i hi => .inr (by simp only [List.mem_singleton] at hi; omega)))
  have c1 : w2.cell? ⟨w1.heap.size, 1, none⟩ = some (.int .i64 2) := by rw [cells_of hw2]; rfl
  have z1 := free_of hw2 1
  have HD3 : Hid ((w2.setCell ⟨w1.heap.size, 1, none⟩ (.int .i64 1)).heap[w1.heap.size]? = some (.cells HL.toArray 27 (0, 0))) := Lib.hid (by rw [HHL.out]; exact heap_set_same (i := 1) (.int .i64 1) hw2)
  have O3 := Lib.hid (O2.out.setCell (p := ⟨w1.heap.size, 1, none⟩) (.inr hz1) (.int .i64 1))
  clear hw2 ho2 O1
  generalize w1.heap.size = hb at *
  go_wp2_with fail
  clear c1 z1 O2
  generalize w2.setCell ⟨hb, 1, none⟩ (.int .i64 1) = w2 at *
  have HD2 := HD3
  have O2 := O3
  clear HD3 O3
  have r27 : w2.rangeAt hb 0 HL := fun j v hj => by rw [Nat.zero_add, cells_of HD2.out, ← hj, List.getElem?_toArray]
  refine wp_region_L (by kernel_rfl) (fun w' => w'.rangeAt hb 0 HL ∧ Only [] w2 w') 7 ?_
  have hS0 : (fun w' => w'.rangeAt hb 0 HL ∧ Only [] w2 w') w2.drew := ⟨r27, (Only.refl [] w2).drew⟩
  refine AnyL.take 0 rfl (by kernel_rfl) (by kernel_rfl) (by kernel_rfl) (by kernel_rfl) (fun _ _ _ h => h) (by assumption) (yieldsIf_load_mid (by rfl) _ _ rfl hb 0 rfl HL _ (fun w' h => h.1) Hu27.out rfl Hi27.out) ?_
  try simp only [Act.put, List.setIfInBounds_toArray, List.set_cons_zero, List.set_cons_succ]
  obtain ⟨t1, t2⟩ := hS0
  refine AnyL.one 1 (by kernel_rfl) rfl (fun K hK => ?_)
  go_simp
  go_at_call 12
  refine (law_plain _).mono ?_
  rintro e wp ⟨rfl, op⟩
  refine hK _ _ (fun _ => ⟨range_only t1 op (by simp), t2.trans op⟩) (fun _ => ?_)
  clear hK K
  try simp only [Act.put, List.setIfInBounds_toArray, List.set_cons_zero, List.set_cons_succ]
  refine AnyL.one 2 (by kernel_rfl) rfl (fun K hK => ?_)
  go_simp
  go_at_call 11
  refine (Hdr.out _).mono ?_
  rintro e wd ⟨cb, yb, ub, vb, sb, rfl, hc, hs, l1, l2, l3, l4, l5, od⟩
  have t3 := (t2.trans op).trans od
  have t4 := range_only (range_only t1 op (by simp)) od (by simp)
  have hzp := (t2.trans op).size
  refine hK _ _ (fun _ => ⟨t4, t3⟩) (fun _ => ?_)
  clear hK K
  try simp only [Act.put, List.setIfInBounds_toArray, List.set_cons_zero, List.set_cons_succ]
  have hS0 : (fun w' => w'.rangeAt hb 0 HL ∧ Only [] w2 w') wd := ⟨t4, t3⟩
  refine AnyL.take 3 (v := ?_) rfl (by kernel_rfl) (by kernel_rfl) (by kernel_rfl) (by kernel_rfl) (fun _ _ _ h => h) (by assumption) (Or.inl ⟨by rfl, ?_⟩) ?_
  rotate_left
  · (intro w' hSw; (try dsimp only at hSw); go_simp; try (with_reducible rfl))
  try simp only [Act.put, List.setIfInBounds_toArray, List.set_cons_zero, List.set_cons_succ]
  refine AnyL.take 4 (v := ?_) rfl (by kernel_rfl) (by kernel_rfl) (by kernel_rfl) (by kernel_rfl) (fun _ _ _ h => h) (by assumption) (Or.inl ⟨by rfl, ?_⟩) ?_
  rotate_left
  · (intro w' hSw; (try dsimp only at hSw); go_simp; try (with_reducible rfl))
  try simp only [Act.put, List.setIfInBounds_toArray, List.set_cons_zero, List.set_cons_succ]
  refine AnyL.take 5 (v := ?_) rfl (by kernel_rfl) (by kernel_rfl) (by kernel_rfl) (by kernel_rfl) (fun _ _ _ h => h) (by assumption) (Or.inl ⟨by rfl, ?_⟩) ?_
  rotate_left
  · (intro w' hSw; (try dsimp only at hSw); go_simp; try (with_reducible rfl))
  try simp only [Act.put, List.setIfInBounds_toArray, List.set_cons_zero, List.set_cons_succ]
  refine AnyL.take 6 (v := ?_) rfl (by kernel_rfl) (by kernel_rfl) (by kernel_rfl) (by kernel_rfl) (fun _ _ _ h => h) (by assumption) (Or.inl ⟨by rfl, ?_⟩) ?_
  rotate_left
  · (intro w' hSw; (try dsimp only at hSw); go_simp; try (with_reducible rfl))
  try simp only [Act.put, List.setIfInBounds_toArray, List.set_cons_zero, List.set_cons_succ]
  refine AnyL.one 7 (by kernel_rfl) rfl (fun K hK => ?_)
  go_simp
  refine hK _ _ (fun h => (h rfl).elim) (fun _ => ?_)
  clear hK K
  try simp only [Act.put, List.setIfInBounds_toArray, List.set_cons_zero, List.set_cons_succ]
  refine AnyL.done (by kernel_rfl) ?_ _
  have C3 : Hid (CanAt wd cb yb ub vb 512 128 128 2 1 (List.replicate 512 128) (List.replicate 128 128) (List.replicate 128 128) (.slice none 0 0) (.pointer (some ⟨sb, 0, none⟩)) ((0 + 1 : Nat) : Int)) := Lib.hid hc
  have S3 := Lib.hid hs
  have O3 := Lib.hid (O2.out.trans t3)
  have HD3 := Lib.hid (t3.heap HD2.out (by simp))
  have hz2 := O2.out.size
  have L1 : w.heap.size ≤ cb ∧ w.heap.size ≤ yb ∧ w.heap.size ≤ ub ∧ w.heap.size ≤ vb ∧ w.heap.size ≤ sb := by omega
  have hlb := lt_of_block HD2.out
  have hne : hb ∉ [yb, ub, vb, sb, cb] := by simp only [List.mem_cons, List.not_mem_nil, or_false]; omega
  have HNE := Lib.hid hne
  have HL1 := Lib.hid L1
  clear hc hs l1 l2 l3 l4 l5 od t1 t2 t3 t4 op r27 hzp HD2 O2 hlb hne L1 hS0
  generalize wd = w3 at *
  go_wp2_with (refine wpList_make1 rfl _ _ rfl elt8 rfl 384 rfl rfl (by simp) (by simp) (by decide) (by omega) ?_)
  intro w4 hw4 ho4 hs4
  obtain ⟨f, hf⟩ : ∃ f : Nat → Int, f = fun _ => u := ⟨_, rfl⟩
  rw [u8s_replicate, ← fillTo_zero f] at hw4
  have hfu : ∀ i, f i = u := fun i => by rw [hf]
  have W4 := Lib.hid hw4
  have O4 := Lib.hid ho4
  have HFU := Lib.hid hfu
  have hpn : w3.heap.size ≠ cb ∧ w3.heap.size ≠ yb ∧ w3.heap.size ≠ ub ∧ w3.heap.size ≠ vb ∧ w3.heap.size ≠ sb := by
    have n1 := lt_of_block C3.out.st
    have n2 := lt_of_block C3.out.ys.choose_spec
    have n3 := lt_of_block C3.out.us.choose_spec
    have n4 := lt_of_block C3.out.vs.choose_spec
    have n5 := lt_of_block S3.out
    omega
  have HPN := Lib.hid hpn
  have hz3 := O3.out.size
  clear hw4 ho4 hs4 hfu hf hpn
  generalize hpb : w3.heap.size = pb at *
  go_wp2
  go_loopw [9] (fun q wr => ∃ k : Nat, k ≤ 384 ∧ q = .int .i64 k ∧ wr.heap[pb]? = some (.cells (u8s (fillTo f 384 k)) 5 (0, 0)) ∧ Only [] w3 wr) (fun q _ => 384 - (intOf q).toNat)
  case atStart => exact ⟨0, by omega, rfl, W4.out, O4.out⟩
  case round =>
    obtain ⟨k, hk, rfl, hc, ho⟩ := hrel
    by_cases hlt : k < 384
    · have c2 : wr.cell? ⟨pb, k, none⟩ = some (.int .u8 ((fillTo f 384 k).getD k 0)) := by rw [cells_of hc, u8s_at _ _ (by rw [fillTo_length]; exact hlt)]
      have z2 := free_of hc k
      have C2 := Lib.hid (heap_set_same (i := k) (.int .u8 u) hc)
      have O5 := Lib.hid (ho.setCell (p := ⟨pb, k, none⟩) (.inr (by simp only; omega)) (.int .u8 u))
      clear hc ho
      go_wp2
      go_roundw
      case rel => exact ⟨k + 1, by omega, by go_num, by have := C2.out; rw [u8s_setIf, fillTo_set f 384 k u (HFU.out k).symm] at this; exact this, O5.out⟩
      case measure => simp [intOf] <;> omega
    · obtain rfl : k = 384 := by omega
      have P5 := Lib.hid hc
      have O5 := Lib.hid (O3.out.trans ho)
      have C5 := Lib.hid (C3.out.only ho (by simp) (by simp) (by simp) (by simp))
      have S5 := Lib.hid (ho.heap S3.out (by simp))
      have HD5 := Lib.hid (ho.heap HD3.out (by simp))
      clear hc ho C3 S3 O3 HD3 W4 O4
      generalize wr = w5 at *
      have hset := mbSetP pb
      go_wp2_with fail
      refine (mb_pcm (B := w.heap.size) (n := 0) (wide := 2) (f := f) (pb := pb) (po := 0) C5.out (by omega) (by omega) (by omega) (by omega) (by omega) (World.ownsRow_nil _ _ _ _) S5.out HL1.out.1 (by simp) (by simp) (by simp) (fun k hk => by unfold spot; rw [List.length_replicate]; omega) (fun k hk => by unfold spot; rw [List.length_replicate]; omega) (fun k hk => by unfold spot; rw [List.length_replicate]; omega)
        (fun i hi => by
          rw [Nat.zero_add, cells_of P5.out, u8s_at _ _ (by rw [fillTo_length]; exact hi), fillTo_full]
          simp [List.getD, List.getElem?_map, List.getElem?_range hi]) (fun i hi => by rw [HFU.out i]; exact hur) HPN.out.2.1 HPN.out.2.2.1 HPN.out.2.2.2.1).mono ?_
      rintro e w6 ⟨rfl, p0, p1, p2, p3, ao, c6, Y', hG, hc, hown, hs, -, o6⟩
      have hfa : ∀ i, i < 384 → f i = u := fun i _ => HFU.out i
      have hY : Y' = halfY u := Eq.trans (show Y' = lumaP 2 0 0 f (List.replicate 512 128) from hG) (lumaP_half u f hfa)
      rw [hY] at hc
      clear hG hY
      change CanAt w6 cb yb ub vb 512 128 128 2 1 (halfY u) (chromaP 2 0 0 256 f (List.replicate 128 128)) (chromaP 2 0 0 320 f (List.replicate 128 128)) (.slice ao 1 c6) _ _ at hc
      rw [chromaP_half u f 256 (by omega) hfa, chromaP_half u f 320 (by omega) hfa] at hc
      have o6' : Only [yb, ub, vb, sb, cb] w5 w6 := by simpa [Value.ownBlock] using o6
      have C6 := Lib.hid hc
      have W6 := Lib.hid hown
      have S6 := Lib.hid hs
      have O6 := Lib.hid (O5.out.trans' o6' (fun i hi => .inr (by have := HL1.out; simp only [List.mem_cons, List.not_mem_nil, or_false] at hi; omega)))
      have HD6 := Lib.hid (o6'.heap HD5.out HNE.out)
      clear hc hown hs o6 o6' hset C5 S5 O5 HD5 P5 hfa
      have h6 : w6.heap[hb]? = some (.cells #[.int .i64 0, .int .i64 1, .int .i64 2, .int .i64 0, .int .i64 0, .int .i64 0, .bool false, .int .i64 0, .int .i64 0, .slice none 0 0, .slice none 0 0, .int .i64 0, .int .i64 0, .slice none 0 0, .slice none 0 0, .bool false, .slice none 0 0, .int .i64 30, .bool false, .int .i64 0, .int .i64 0] 27 (0, 0)) := by have := HD6.out; rw [HHL.out] at this; exact this
      have c0 : w6.cell? ⟨hb, 0, none⟩ = some (.int .i64 0) := by rw [cells_of h6]; rfl
      have z0 := free_of h6 0
      obtain ⟨HM, hHM⟩ : ∃ HM, HM = headL 1 1 30 := ⟨_, rfl⟩
      have HD7 : Hid ((w6.setCell ⟨hb, 0, none⟩ (.int .i64 1)).heap[hb]? = some (.cells HM.toArray 27 (0, 0))) := Lib.hid (by rw [hHM]; exact heap_set_same (i := 0) (.int .i64 1) h6)
      have hbl : w.heap.size ≤ hb := by omega
      have O7 := Lib.hid (O6.out.setCell (p := ⟨hb, 0, none⟩) (.inr hbl) (.int .i64 1))
      have P7 : Only [hb] w6 (w6.setCell ⟨hb, 0, none⟩ (.int .i64 1)) := (Only.refl [hb] w6).setCell (p := ⟨hb, 0, none⟩) (.inl (by simp)) (.int .i64 1)
      have nb := HNE.out
      simp only [List.mem_cons, List.not_mem_nil, or_false, not_or] at nb
      obtain ⟨nb1, nb2, nb3, nb4, nb5⟩ := nb
      have C7 := Lib.hid (C6.out.only P7 (by simpa using Ne.symm nb5) (by simpa using Ne.symm nb1) (by simpa using Ne.symm nb2) (by simpa using Ne.symm nb3))
      have W7 := Lib.hid (ownsRow_of_block W6.out (w' := w6.setCell ⟨hb, 0, none⟩ (.int .i64 1)) fun g hg => by
        obtain ⟨c, hc⟩ := ownsRow_block W6.out hg
        exact P7.block g (lt_of_block hc) (by simpa using block_ne hc h6 (by decide)))
      have hi27m : (Tryz.prog.info? 27).map (·.size) = some HM.length := by rw [hHM]; kernel_rfl
      have Hi27m := Lib.hid hi27m
      have hsl : ∀ wx, CanAt wx cb yb ub vb 512 128 128 2 1 (halfY u) (halfU u) (halfU u) (.slice ao 1 c6) (.pointer (some ⟨sb, 0, none⟩)) ((0 + 1 : Nat) : Int) → Calls Tryz.prog 23 #[.pointer (some ⟨cb, 0, none⟩), .agg HM.toArray, .agg #[.bool false, .bool false, .int .i64 0, .int .i64 0, .int .i64 0, .bool false, .bool false, .int .i64 1, .int .i64 1], .slice none 0 0, .slice none 0 0, .int .i64 0] wx fun e w' => ∃ s2, e = .returned (.int .i64 0) ∧ wx.heap.size ≤ s2 ∧ w'.heap[s2]? = some (.cells (headI (1 : Nat) (1 : Nat) 30 ++ restL false 0 ++ ([.int .i64 30] : List Value)).toArray 89 (0, 0)) ∧ CanAt w' cb yb ub vb 512 128 128 2 1 (halfY u) (halfU u) (halfU u) (.slice ao 1 c6) (.pointer (some ⟨s2, 0, none⟩)) ((1 + 1 : Nat) : Int) ∧ Only [cb] wx w' := fun wx hc => by
        rw [hHM]
        have := slice_I hc (by omega) (by omega) (by omega) 1 (by omega) (by omega) 30 (by omega) (by omega) false 0 (by omega) (by omega)
        rw [sliceCells] at this
        exact this
      have Hsl := Lib.hid hsl
      clear h6 hHM P7 nb1 nb2 nb3 nb4 nb5 hi27m hsl HD6 C6 W6 S6 O6
      go_wp2_with fail
      clear c0 z0
      generalize w6.setCell ⟨hb, 0, none⟩ (.int .i64 1) = w7 at *
      have r28 : w7.rangeAt hb 0 HM := fun j v hj => by rw [Nat.zero_add, cells_of HD7.out, ← hj, List.getElem?_toArray]
      refine wp_region_L (by kernel_rfl) (fun w' => w'.rangeAt hb 0 HM ∧ Only [cb] w7 w') 4 ?_
      have hS0 : (fun w' => w'.rangeAt hb 0 HM ∧ Only [cb] w7 w') w7.drew := ⟨r28, (Only.refl [cb] w7).drew⟩
      refine AnyL.take 0 (v := ?_) rfl (by kernel_rfl) (by kernel_rfl) (by kernel_rfl) (by kernel_rfl) (fun _ _ _ h => h) (by assumption) (Or.inl ⟨by rfl, ?_⟩) ?_
      rotate_left
      · (intro w' hSw; (try dsimp only at hSw); go_simp; try (with_reducible rfl))
      try simp only [Act.put, List.setIfInBounds_toArray, List.set_cons_zero, List.set_cons_succ]
      refine AnyL.take 1 rfl (by kernel_rfl) (by kernel_rfl) (by kernel_rfl) (by kernel_rfl) (fun _ _ _ h => h) (by assumption) (yieldsIf_load_mid (by rfl) _ _ rfl hb 0 rfl HM _ (fun w' h => h.1) Hu27.out rfl Hi27m.out) ?_
      try simp only [Act.put, List.setIfInBounds_toArray, List.set_cons_zero, List.set_cons_succ]
      obtain ⟨t1, t2⟩ := hS0
      refine AnyL.one 2 (by kernel_rfl) rfl (fun K hK => ?_)
      go_simp
      go_at_call 12
      refine (law_plain _).mono ?_
      rintro e wp ⟨rfl, op⟩
      refine hK _ _ (fun _ => ⟨range_only t1 op (by simp), t2.trans (op.mono (by simp))⟩) (fun _ => ?_)
      clear hK K
      try simp only [Act.put, List.setIfInBounds_toArray, List.set_cons_zero, List.set_cons_succ]
      refine AnyL.one 3 (by kernel_rfl) rfl (fun K hK => ?_)
      go_simp
      go_at_call 23
      have O8 := (Only.refl [] w7).drew.trans op
      refine (Hsl.out _ (C7.out.only O8 (by simp) (by simp) (by simp) (by simp))).mono ?_
      rintro e w9 ⟨s2, rfl, hs2, hs, hc, o9⟩
      have hbc : hb ≠ cb := by have := HNE.out; simp only [List.mem_cons, List.not_mem_nil, or_false, not_or] at this; exact this.2.2.2.2
      have o79 : Only [cb] w7 w9 := (O8.mono (by simp)).trans o9
      refine hK _ _ (fun _ => ⟨range_only (range_only t1 op (by simp)) o9 (by simpa using hbc), o79⟩) (fun _ => ?_)
      clear hK K
      try simp only [Act.put, List.setIfInBounds_toArray, List.set_cons_zero, List.set_cons_succ]
      refine AnyL.one 4 (by kernel_rfl) rfl (fun K hK => ?_)
      go_simp
      refine hK _ _ (fun h => (h rfl).elim) (fun _ => ?_)
      clear hK K
      try simp only [Act.put, List.setIfInBounds_toArray, List.set_cons_zero, List.set_cons_succ]
      refine AnyL.done (by kernel_rfl) ?_ _
      have C9 := Lib.hid hc
      have S9 := Lib.hid hs
      have W9 := Lib.hid (ownsRow_of_block W7.out (w' := w9) fun g hg => by
        obtain ⟨c, hcg⟩ := ownsRow_block W7.out hg
        exact o79.block g (lt_of_block hcg) (by simpa using block_ne hcg C7.out.st (by decide)))
      have O9 := Lib.hid (O7.out.trans' o79 (fun i hi => .inr (by have := HL1.out; simp only [List.mem_singleton] at hi; omega)))
      clear hc hs t1 t2 op o9 o79 O8 r28 C7 W7 O7 HD7 hs2
      have hset2 := mbSet16c 1 1 30
      go_wp2_with (first | (go_at_call 14; refine (num_any _ _).mono ?_; rintro e w' ⟨rfl, rfl⟩))
      refine (mb_apart (B := w.heap.size) C9.out W9.out S9.out).mono ?_
      rintro e wa ⟨rfl, ⟨Y2, U2, V2, hc⟩, oa⟩
      have CA := Lib.hid hc
      have OA := Lib.hid (O9.out.trans' oa (fun i hi => .inr (by have := HL1.out; simp only [List.mem_cons, List.not_mem_nil, or_false] at hi; omega)))
      clear hc oa hset2
      go_wp2_with (first
        | (go_at_call 14; refine (num_any _ _).mono ?_; rintro e w' ⟨rfl, rfl⟩)
        | (go_at_call 15; refine (canvas_done CA.out).mono ?_; rintro e w' ⟨rfl, rfl⟩))
      go_ret
      exact ⟨rfl, OA.out⟩

theorem law_apart (v : Int) (cut : Bool) (w : World) : Calls Tryz.prog 7 #[.int .i64 v, .bool cut] w fun e w' => e = .returned (.bool true) ∧ Only [] w w' := by
  cases cut
  · exact law_apart_same v w
  · exact law_apart_cut v w
end Go.Proofs.YtcmehedjdfopdaaGreat
