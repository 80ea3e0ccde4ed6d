/-
  The walk over the law ReconFirst.
-/
import Derived.Test.YtcmehedjdfopdaaGreatJ39
import Derived.Test.YtcmehedjdfopdaaGreatJ40
import Derived.Test.YtcmehedjdfopdaaGreatJ30
namespace Go.Proofs.YtcmehedjdfopdaaGreat
open Go Go.RowKit

theorem mbSet16c (whole chroma qp : Int) : (((Tryz.zeroCells48.setIfInBounds 0 (.int .i64 1)).setIfInBounds 18 (.int .i64 whole)).setIfInBounds 19 (.int .i64 chroma)).setIfInBounds 49 (.int .i64 qp) = (mbL 1 whole chroma qp 0 z16 z28 (.slice none 0 0)).toArray := by kernel_rfl
theorem mbSet4 : Tryz.zeroCells48.setIfInBounds 0 (.int .i64 0) = (mbL 0 0 0 0 0 (modesV (fun i => if i < 0 then 2 else 0)) z28 (.slice none 0 0)).toArray := by kernel_rfl
theorem raw_even {wx : World} {cb yb ub vb cy cu cv : Nat} {al cur : Value} {aft : Int} (hc : Grey1 wx cb yb ub vb cy cu cv al cur aft) : Calls Tryz.prog 17 #[.pointer (some ⟨cb, 0, none⟩)] wx fun e w' => ∃ y u v, e = .returned (.agg #[.int .i64 16, .int .i64 16, y, u, v]) ∧ BytesAt w' y (List.replicate 256 128) ∧ BytesAt w' u (List.replicate 64 128) ∧ BytesAt w' v (List.replicate 64 128) ∧ Only [] wx w' := by
  refine (canvas_raw (ny := 256) (nu := 64) (nv := 64) hc List.length_replicate List.length_replicate List.length_replicate (by omega) (by omega) (by omega) (by omega) (by omega) (by omega)).mono ?_
  rintro e w' ⟨f, rfl, ⟨g1, p1, g2, p2, g3, p3, rfl, h1, h2, h3⟩, ho⟩
  exact ⟨_, _, _, rfl, BytesAt.own h1 List.length_replicate.symm List.length_replicate.symm, BytesAt.own h2 List.length_replicate.symm List.length_replicate.symm, BytesAt.own h3 List.length_replicate.symm List.length_replicate.symm, ho⟩
theorem grey_even (wx : World) : Calls Tryz.prog 18 #[.int .i64 16, .int .i64 16, .int .u8 128] wx fun e w' => ∃ y u v, e = .returned (.agg #[.int .i64 16, .int .i64 16, y, u, v]) ∧ BytesAt w' y (List.replicate 256 128) ∧ BytesAt w' u (List.replicate 64 128) ∧ BytesAt w' v (List.replicate 64 128) ∧ Only [] wx w' :=
  grey 256 64 (by decide) (by decide) (by omega)
/-- A header of an I slice, as a list of cells. -/
def headL (first count hq : Int) : List Value := [.int .i64 first, .int .i64 count, .int .i64 2, .int .i64 0, .int .i64 0, .int .i64 0, .bool false, .int .i64 0, .int .i64 0, .slice none 0 0, .slice none 0 0, .int .i64 0, .int .i64 0, .slice none 0 0, .slice none 0 0, .bool false, .slice none 0 0, .int .i64 hq, .bool false, .int .i64 0, .int .i64 0]
/-- The first of sixteen modes, the others means. -/
def firstF (m : Nat) (i : Nat) : Int := if i = 0 then m else 2
theorem mbL_setM (kd whole chroma qp d : Int) (f g : Nat → Int) (Ps : List Value) (pcm : Value) (k : Nat) (hk : k < 16) (v : Int) (hv : v = g k) (h : ∀ i, i < 16 → i ≠ k → f i = g i) : (mbL kd whole chroma qp d (modesV f) Ps pcm).toArray.setIfInBounds (2 + k) (.int .i64 v) = (mbL kd whole chroma qp d (modesV g) Ps pcm).toArray := by
  subst hv
  rw [List.setIfInBounds_toArray]
  congr 1
  unfold mbL
  rw [List.set_append_right _ _ (by simp), List.set_append_left _ _ (by simp [modesV_len]; omega)]
  congr 2
  apply List.ext_getElem?
  intro i
  have hl : ∀ (q : Nat → Int), (modesV q)[i]? = if i < 16 then some (.int .i64 (q i)) else none := fun q => by
    unfold modesV
    simp only [List.getElem?_map]
    by_cases hi : i < 16
    · simp [hi]
    · simp [hi]
  simp only [List.length_cons, List.length_nil, Nat.zero_add, Nat.reduceAdd, Nat.add_sub_cancel_left]
  rw [List.getElem?_set, hl f, hl g, modesV_len]
  by_cases hik : k = i
  · subst hik; simp [hk]
  · by_cases hi : i < 16
    · simp [hik, hi, h i hi (fun e => hik e.symm)]
    · simp [hik, hi]
theorem mode_cell (kd whole chroma qp d : Int) (f : Nat → Int) (Ps : List Value) (pcm : Value) (k : Nat) (hk : k < 16) : (mbL kd whole chroma qp d (modesV f) Ps pcm).toArray[2 + k]? = some (.int .i64 (f k)) := by
  rw [List.getElem?_toArray]
  unfold mbL
  rw [List.getElem?_append_right (by simp), List.getElem?_append_left (by simp [modesV_len]; omega)]
  simp [modesV, hk]

set_option maxRecDepth 100000 in
set_option maxHeartbeats 6400000 in
theorem law_first (mode whole chroma : Int) (w : World) : Calls Tryz.prog 3 #[.int .i64 mode, .int .i64 whole, .int .i64 chroma] w fun e w' => e = .returned (.bool true) ∧ Only [] w w' := by
  obtain ⟨HL, hHL⟩ : ∃ HL, HL = headL 0 1 30 := ⟨_, rfl⟩
  have hu27 := Tryz.underlying27
  have hi27 : (Tryz.prog.info? 27).map (·.size) = some HL.length := by rw [hHL]; kernel_rfl
  have hdr : ∀ wx, Calls Tryz.prog 11 #[.int .i64 1, .agg HL.toArray, .agg #[.bool false, .bool false, .int .i64 0, .int .i64 0, .int .i64 0, .bool false, .bool false, .int .i64 1, .int .i64 1], .slice none 0 0, .slice none 0 0, .int .i64 0] wx (DrawnOut 1 1 30 wx) := fun wx => by
    rw [hHL]
    exact law_drawn 1 1 (.inl rfl) (by omega) (by omega) 30 (by omega) (by omega) wx
  have Hi27 := Lib.hid hi27
  have Hdr := Lib.hid hdr
  have Hu27 := Lib.hid hu27
  have HHL := Lib.hid hHL
  clear hHL hi27 hdr hu27
  obtain ⟨wv, hwv⟩ : ∃ wv, whole % 4 = wv := ⟨_, rfl⟩
  obtain ⟨kv, hkv⟩ : ∃ kv, chroma % 4 = kv := ⟨_, rfl⟩
  have hw4 : 0 ≤ wv ∧ wv ≤ 3 := by omega
  have hk4 : 0 ≤ kv ∧ kv ≤ 3 := by omega
  obtain ⟨m, hm0, hm9⟩ := u64mod mode 9 (by omega) (by omega)
  have hm : wrap64 ((IntKind.u64.wrap mode).tmod 9) = (m : Int) := hm0
  clear hm0
  go_enter Tryz.func3, Tryz.ntmps3
  go_wp2_with fail
  refine (awake22 _).mono ?_
  rintro e w1 ⟨rfl, o1⟩
  have O1 := Lib.hid o1
  clear o1
  go_wp2_with (refine wpList_store_agg rfl _ _ _ rfl w1.heap.size #[.int .i64 0, .int .i64 1, .int .i64 2, .int .i64 0, .int .i64 0, .int .i64 0, .bool false, .int .i64 0, .int .i64 0, .slice none 0 0, .slice none 0 0, .int .i64 0, .int .i64 0, .slice none 0 0, .slice none 0 0, .bool false, .slice none 0 0, .int .i64 30, .bool false, .int .i64 0, .int .i64 0] rfl rfl (heap_alloc_at w1 _) (by kernel_rfl) (by kernel_rfl) (by simp [Value.oneCell']) ?_)
  intro w2 hw2 ho2
  have hz1 := O1.out.size
  have HD2 : Hid (w2.heap[w1.heap.size]? = some (.cells HL.toArray 27 (0, 0))) := Lib.hid (by rw [HHL.out]; exact hw2)
  have O2 : Hid (Only [] w w2) := Lib.hid ((O1.out.alloc _).trans' ho2 (fun i hi => .inr (by simp only [List.mem_singleton] at hi; omega)))
  clear hw2 ho2 O1
  generalize w1.heap.size = hb at *
  go_wp2_with fail
  have r27 : w2.rangeAt hb 0 HL := fun j v hj => by rw [Nat.zero_add, cells_of HD2.out, ← hj, List.getElem?_toArray]
  refine wp_region_L (by kernel_rfl) (fun w' => w'.rangeAt hb 0 HL ∧ Only [] w2 w') 7 ?_
  have hS0 : (fun w' => w'.rangeAt hb 0 HL ∧ Only [] w2 w') w2.drew := ⟨r27, (Only.refl [] w2).drew⟩
  refine AnyL.take 0 rfl (by kernel_rfl) (by kernel_rfl) (by kernel_rfl) (by kernel_rfl) (fun _ _ _ h => h) (by assumption) (yieldsIf_load_mid (by rfl) _ _ rfl hb 0 rfl HL _ (fun w' h => h.1) Hu27.out rfl Hi27.out) ?_
  try simp only [Act.put, List.setIfInBounds_toArray, List.set_cons_zero, List.set_cons_succ]
  obtain ⟨t1, t2⟩ := hS0
  refine AnyL.one 1 (by kernel_rfl) rfl (fun K hK => ?_)
  go_simp
  go_at_call 12
  refine (law_plain _).mono ?_
  rintro e wp ⟨rfl, op⟩
  refine hK _ _ (fun _ => ⟨range_only t1 op (by simp), t2.trans op⟩) (fun _ => ?_)
  clear hK K
  try simp only [Act.put, List.setIfInBounds_toArray, List.set_cons_zero, List.set_cons_succ]
  refine AnyL.one 2 (by kernel_rfl) rfl (fun K hK => ?_)
  go_simp
  go_at_call 11
  refine (Hdr.out _).mono ?_
  rintro e wd ⟨cb, yb, ub, vb, sb, rfl, hc, hs, l1, l2, l3, l4, l5, od⟩
  have t3 := (t2.trans op).trans od
  have t4 := range_only (range_only t1 op (by simp)) od (by simp)
  have hzp := (t2.trans op).size
  refine hK _ _ (fun _ => ⟨t4, t3⟩) (fun _ => ?_)
  clear hK K
  try simp only [Act.put, List.setIfInBounds_toArray, List.set_cons_zero, List.set_cons_succ]
  have hS0 : (fun w' => w'.rangeAt hb 0 HL ∧ Only [] w2 w') wd := ⟨t4, t3⟩
  refine AnyL.take 3 (v := ?_) rfl (by kernel_rfl) (by kernel_rfl) (by kernel_rfl) (by kernel_rfl) (fun _ _ _ h => h) (by assumption) (Or.inl ⟨by rfl, ?_⟩) ?_
  rotate_left
  · (intro w' hSw; (try dsimp only at hSw); go_simp; try (with_reducible rfl))
  try simp only [Act.put, List.setIfInBounds_toArray, List.set_cons_zero, List.set_cons_succ]
  refine AnyL.take 4 (v := ?_) rfl (by kernel_rfl) (by kernel_rfl) (by kernel_rfl) (by kernel_rfl) (fun _ _ _ h => h) (by assumption) (Or.inl ⟨by rfl, ?_⟩) ?_
  rotate_left
  · (intro w' hSw; (try dsimp only at hSw); go_simp; try (with_reducible rfl))
  try simp only [Act.put, List.setIfInBounds_toArray, List.set_cons_zero, List.set_cons_succ]
  refine AnyL.take 5 (v := ?_) rfl (by kernel_rfl) (by kernel_rfl) (by kernel_rfl) (by kernel_rfl) (fun _ _ _ h => h) (by assumption) (Or.inl ⟨by rfl, ?_⟩) ?_
  rotate_left
  · (intro w' hSw; (try dsimp only at hSw); go_simp; try (with_reducible rfl))
  try simp only [Act.put, List.setIfInBounds_toArray, List.set_cons_zero, List.set_cons_succ]
  refine AnyL.take 6 (v := ?_) rfl (by kernel_rfl) (by kernel_rfl) (by kernel_rfl) (by kernel_rfl) (fun _ _ _ h => h) (by assumption) (Or.inl ⟨by rfl, ?_⟩) ?_
  rotate_left
  · (intro w' hSw; (try dsimp only at hSw); go_simp; try (with_reducible rfl))
  try simp only [Act.put, List.setIfInBounds_toArray, List.set_cons_zero, List.set_cons_succ]
  refine AnyL.one 7 (by kernel_rfl) rfl (fun K hK => ?_)
  go_simp
  refine hK _ _ (fun h => (h rfl).elim) (fun _ => ?_)
  clear hK K
  try simp only [Act.put, List.setIfInBounds_toArray, List.set_cons_zero, List.set_cons_succ]
  refine AnyL.done (by kernel_rfl) ?_ _
  have F3 : Hid (Fresh1 wd cb yb ub vb sb 256 64 64 30 0 false) := Lib.hid ⟨hc, hs⟩
  have O3 := Lib.hid (O2.out.trans t3)
  have HD3 := Lib.hid (t3.heap HD2.out (by simp))
  have hz2 := O2.out.size
  have L1 : w.heap.size ≤ cb ∧ w.heap.size ≤ yb ∧ w.heap.size ≤ ub ∧ w.heap.size ≤ vb ∧ w.heap.size ≤ sb := by omega
  have hlb := lt_of_block HD2.out
  have hne : hb ≠ cb ∧ hb ≠ yb ∧ hb ≠ ub ∧ hb ≠ vb ∧ hb ≠ sb := by omega
  have HNE := Lib.hid hne
  have HL1 := Lib.hid L1
  clear hc hs l1 l2 l3 l4 l5 od t1 t2 t3 t4 op r27 hzp HD2 O2 hlb hne L1 hS0
  generalize wd = w3 at *
  have hset := mbSet16c wv kv 30
  go_upto_region 8 with fail
  go_wp2_with fail
  refine (mb16_any F3.out wv kv hw4.1 hw4.2 hk4.1 hk4.2 (by omega) (by omega)).mono ?_
  rintro e w4 ⟨rfl, ao, c4, hc4, o4⟩
  obtain ⟨F, hF⟩ : ∃ F, decide (wv = 2 ∧ kv = 0) = F := ⟨_, rfl⟩
  rw [hF] at hc4 ⊢
  obtain ⟨code, hcode⟩ : ∃ code : Int, (if F then 0 else 2200) = code := ⟨_, rfl⟩
  rw [hcode]
  have C4 := Lib.hid hc4
  have O4 := Lib.hid (O3.out.trans' o4 (fun i hi => .inr (by have := HL1.out; simp only [List.mem_cons, List.not_mem_nil, or_false] at hi; omega)))
  have HD4 := Lib.hid (o4.heap HD3.out (by have := HNE.out; simp; omega))
  have HFq := Lib.hid hF
  have HCq := Lib.hid hcode
  clear hc4 o4 hF hcode O3 HD3 hset F3
  go_upto_region 9 with fail
  go_cut [13] (fun c wx => c = .bool F ∧ w4 = wx)
  case first =>
    have hF := HFq.out
    by_cases h2 : wv = 2
    · by_cases h0 : kv = 0
      · subst h2 h0
        subst hF
        go_wp2
        go_meet
        exact ⟨rfl, rfl⟩
      · have hb0 : ((kv : Int) == 0) = false := by simpa using h0
        rw [decide_eq_false (by omega)] at hF
        subst h2 hF
        go_wp2
        go_meet
        exact ⟨rfl, rfl⟩
    · have hb2 : ((wv : Int) == 2) = false := by simpa using h2
      rw [decide_eq_false (by omega)] at hF
      subst hF
      go_wp2
      go_meet
      exact ⟨rfl, rfl⟩
  case rest =>
    obtain ⟨rfl, rfl⟩ := hcut
    go_upto_region 10 with fail
    go_cut [62] (fun c wx => c = .bool false ∧ w4 = wx)
    case first =>
      have hcq := HCq.out
      cases F with
      | true =>
        have hc0 : code = 0 := hcq.symm
        subst hc0
        go_wp2_with (first | (go_at_call 14; refine (num_any _ _).mono ?_; rintro e w' ⟨rfl, rfl⟩))
        go_meet
        exact ⟨rfl, rfl⟩
      | false =>
        have hc0 : code = 2200 := hcq.symm
        subst hc0
        have hdone := canvas_done C4.out
        go_wp2_with (first | (go_at_call 14; refine (num_any _ _).mono ?_; rintro e w' ⟨rfl, rfl⟩) | (go_at_call 15; refine hdone.mono ?_; rintro e w' ⟨rfl, rfl⟩))
        go_meet
        exact ⟨rfl, rfl⟩
    case rest =>
      obtain ⟨rfl, rfl⟩ := hcut
      go_wp2_with fail
      have r27 : w4.rangeAt hb 0 HL := fun j v hj => by rw [Nat.zero_add, cells_of HD4.out, ← hj, List.getElem?_toArray]
      refine wp_region_L (by kernel_rfl) (fun w' => w'.rangeAt hb 0 HL ∧ Only [] w4 w') 7 ?_
      have hS0 : (fun w' => w'.rangeAt hb 0 HL ∧ Only [] w4 w') w4.drew := ⟨r27, (Only.refl [] w4).drew⟩
      refine AnyL.take 0 rfl (by kernel_rfl) (by kernel_rfl) (by kernel_rfl) (by kernel_rfl) (fun _ _ _ h => h) (by assumption) (yieldsIf_load_mid (by rfl) _ _ rfl hb 0 rfl HL _ (fun w' h => h.1) Hu27.out rfl Hi27.out) ?_
      try simp only [Act.put, List.setIfInBounds_toArray, List.set_cons_zero, List.set_cons_succ]
      obtain ⟨t1, t2⟩ := hS0
      refine AnyL.one 1 (by kernel_rfl) rfl (fun K hK => ?_)
      go_simp
      go_at_call 12
      refine (law_plain _).mono ?_
      rintro e wp ⟨rfl, op⟩
      refine hK _ _ (fun _ => ⟨range_only t1 op (by simp), t2.trans op⟩) (fun _ => ?_)
      clear hK K
      try simp only [Act.put, List.setIfInBounds_toArray, List.set_cons_zero, List.set_cons_succ]
      refine AnyL.one 2 (by kernel_rfl) rfl (fun K hK => ?_)
      go_simp
      go_at_call 11
      refine (Hdr.out _).mono ?_
      rintro e wd ⟨cd, yd, ud, vd, sd, rfl, hc, hs, l1, l2, l3, l4, l5, od⟩
      have t3 := (t2.trans op).trans od
      have t4 := range_only (range_only t1 op (by simp)) od (by simp)
      have hzp := (t2.trans op).size
      refine hK _ _ (fun _ => ⟨t4, t3⟩) (fun _ => ?_)
      clear hK K
      try simp only [Act.put, List.setIfInBounds_toArray, List.set_cons_zero, List.set_cons_succ]
      have hS0 : (fun w' => w'.rangeAt hb 0 HL ∧ Only [] w4 w') wd := ⟨t4, t3⟩
      refine AnyL.take 3 (v := ?_) rfl (by kernel_rfl) (by kernel_rfl) (by kernel_rfl) (by kernel_rfl) (fun _ _ _ h => h) (by assumption) (Or.inl ⟨by rfl, ?_⟩) ?_
      rotate_left
      · (intro w' hSw; (try dsimp only at hSw); go_simp; try (with_reducible rfl))
      try simp only [Act.put, List.setIfInBounds_toArray, List.set_cons_zero, List.set_cons_succ]
      refine AnyL.take 4 (v := ?_) rfl (by kernel_rfl) (by kernel_rfl) (by kernel_rfl) (by kernel_rfl) (fun _ _ _ h => h) (by assumption) (Or.inl ⟨by rfl, ?_⟩) ?_
      rotate_left
      · (intro w' hSw; (try dsimp only at hSw); go_simp; try (with_reducible rfl))
      try simp only [Act.put, List.setIfInBounds_toArray, List.set_cons_zero, List.set_cons_succ]
      refine AnyL.take 5 (v := ?_) rfl (by kernel_rfl) (by kernel_rfl) (by kernel_rfl) (by kernel_rfl) (fun _ _ _ h => h) (by assumption) (Or.inl ⟨by rfl, ?_⟩) ?_
      rotate_left
      · (intro w' hSw; (try dsimp only at hSw); go_simp; try (with_reducible rfl))
      try simp only [Act.put, List.setIfInBounds_toArray, List.set_cons_zero, List.set_cons_succ]
      refine AnyL.take 6 (v := ?_) rfl (by kernel_rfl) (by kernel_rfl) (by kernel_rfl) (by kernel_rfl) (fun _ _ _ h => h) (by assumption) (Or.inl ⟨by rfl, ?_⟩) ?_
      rotate_left
      · (intro w' hSw; (try dsimp only at hSw); go_simp; try (with_reducible rfl))
      try simp only [Act.put, List.setIfInBounds_toArray, List.set_cons_zero, List.set_cons_succ]
      refine AnyL.one 7 (by kernel_rfl) rfl (fun K hK => ?_)
      go_simp
      refine hK _ _ (fun h => (h rfl).elim) (fun _ => ?_)
      clear hK K
      try simp only [Act.put, List.setIfInBounds_toArray, List.set_cons_zero, List.set_cons_succ]
      refine AnyL.done (by kernel_rfl) ?_ _
      have F5 : Hid (Fresh1 wd cd yd ud vd sd 256 64 64 30 0 false) := Lib.hid ⟨hc, hs⟩
      have O5 := Lib.hid (O4.out.trans t3)
      have C5 := Lib.hid (C4.out.only t3 (by simp) (by simp) (by simp) (by simp))
      have hz4 := O4.out.size
      have hcn := lt_of_block C4.out.st
      have hcy := lt_of_block C4.out.ys.choose_spec
      have hcu := lt_of_block C4.out.us.choose_spec
      have hcv := lt_of_block C4.out.vs.choose_spec
      have HNE2 : Hid (cb ∉ [yd, ud, vd, sd, cd] ∧ yb ∉ [yd, ud, vd, sd, cd] ∧ ub ∉ [yd, ud, vd, sd, cd] ∧ vb ∉ [yd, ud, vd, sd, cd]) := Lib.hid (by simp only [List.mem_cons, List.not_mem_nil, or_false]; omega)
      have HL5 : Hid (w.heap.size ≤ cd ∧ w.heap.size ≤ yd ∧ w.heap.size ≤ ud ∧ w.heap.size ≤ vd ∧ w.heap.size ≤ sd) := Lib.hid (by omega)
      clear hc hs l1 l2 l3 l4 l5 od t1 t2 t3 t4 op r27 hzp HD4 O4 hcn hcy hcu hcv hz4 C4 hS0
      generalize wd = w5 at *
      have hset4 := mbSet4
      obtain ⟨f0, hf0⟩ : ∃ f0 : Nat → Nat → Int, ∀ k i, f0 k i = if i < k then 2 else 0 := ⟨fun k i => if i < k then 2 else 0, fun _ _ => rfl⟩
      have hf00 : (fun i => if i < 0 then (2 : Int) else 0) = f0 0 := funext fun i => (hf0 0 i).symm
      rw [hf00] at hset4
      have HF0 := Lib.hid hf0
      have A6 := Lib.hid (heap_alloc_at w5 (.cells Tryz.zeroCells48 48))
      have P6 := Lib.hid ((Only.refl [] w5).alloc (.cells Tryz.zeroCells48 48))
      have HMS := Lib.hid (mbSize 0 0 0 0 0 (modesV (f0 0)) z28 (.slice none 0 0) (modesV_len _) z28_len)
      have HM1 := Lib.hid (mbL_one 0 0 0 0 0 (modesV (f0 0)) z28 (.slice none 0 0) (modesV_len _) z28_len (modesV_one _) z28_one rfl)
      clear hf0 hf00
      go_wp2_with (refine wpList_store_agg rfl _ _ _ rfl w5.heap.size (mbL 0 0 0 0 0 (modesV (f0 0)) z28 (.slice none 0 0)).toArray rfl rfl A6.out HMS.out (by rw [mbZeroSize, List.size_toArray, mbL_length (modesV_len _) z28_len]) HM1.out ?_)
      intro w6 hw6 ho6
      have W6 := Lib.hid hw6
      have O6 : Hid (Only [] w5 w6) := Lib.hid (P6.out.trans' ho6 (fun i hi => .inr (by simp only [List.mem_singleton] at hi; omega)))
      clear hw6 ho6 hset4 A6 P6 HMS HM1
      generalize hmbg : w5.heap.size = mb at *
      go_wp2
      go_loopw [16] (fun q wr => ∃ k : Nat, k ≤ 16 ∧ q = .int .i64 k ∧ wr.heap[mb]? = some (.cells (mbL 0 0 0 0 0 (modesV (f0 k)) z28 (.slice none 0 0)).toArray 48 (0, 0)) ∧ Only [] w5 wr) (fun q _ => 16 - (intOf q).toNat)
      case atStart => exact ⟨0, by omega, rfl, W6.out, O6.out⟩
      case round =>
        obtain ⟨k, hk, rfl, hc, ho⟩ := hrel
        by_cases hlt : k < 16
        · have c1 : wr.cell? ⟨mb, 2 + k, none⟩ = some (.int .i64 (f0 k k)) := by rw [cells_of hc]; exact mode_cell 0 0 0 0 0 (f0 k) z28 _ k hlt
          have z1 := free_of hc (2 + k)
          have W7 : Hid ((wr.setCell ⟨mb, 2 + k, none⟩ (.int .i64 2)).heap[mb]? = some (.cells (mbL 0 0 0 0 0 (modesV (f0 (k + 1))) z28 (.slice none 0 0)).toArray 48 (0, 0))) := Lib.hid (by
            have := heap_set_same (i := 2 + k) (.int .i64 2) hc
            rw [mbL_setM 0 0 0 0 0 (f0 k) (f0 (k + 1)) z28 _ k hlt 2 (by rw [HF0.out, if_pos (by omega)]) (fun i hi hne => by
              rw [HF0.out, HF0.out]
              by_cases h : i < k
              · rw [if_pos h, if_pos (by omega)]
              · rw [if_neg h, if_neg (by omega)])] at this
            exact this)
          have O7 := Lib.hid (ho.setCell (p := ⟨mb, 2 + k, none⟩) (.inr (by simp; omega)) (.int .i64 2))
          clear hc ho
          go_wp2
          go_roundw
          case rel => exact ⟨k + 1, by omega, by go_num, W7.out, O7.out⟩
          case measure => simp [intOf] <;> omega
        · obtain rfl : k = 16 := by omega
          have c1 : wr.cell? ⟨mb, 2, none⟩ = some (.int .i64 (f0 16 0)) := by rw [cells_of hc]; exact mode_cell 0 0 0 0 0 (f0 16) z28 _ 0 (by omega)
          have z1 := free_of hc 2
          have W7 : Hid ((wr.setCell ⟨mb, 2, none⟩ (.int .i64 m)).heap[mb]? = some (.cells (mbL 0 0 0 0 0 (modesV (firstF m)) z28 (.slice none 0 0)).toArray 48 (0, 0))) := Lib.hid (by
            have := heap_set_same (i := 2 + 0) (.int .i64 m) hc
            rw [mbL_setM 0 0 0 0 0 (f0 16) (firstF m) z28 _ 0 (by omega) m (by rw [firstF, if_pos rfl]) (fun i hi hne => by rw [HF0.out, if_pos hi, firstF, if_neg hne])] at this
            exact this)
          have O7 := Lib.hid (ho.setCell (p := ⟨mb, 2, none⟩) (.inr (by simp; omega)) (.int .i64 m))
          have HMS := Lib.hid (mbSize 0 0 0 0 0 (modesV (firstF m)) z28 (.slice none 0 0) (modesV_len _) z28_len)
          clear hc ho
          go_wp2_with (with_reducible refine wpList_load_row rfl _ _ rfl _ rfl _ _ _ _ W7.out Tryz.underlying48 rfl HMS.out ?_)
          clear c1 z1
          generalize wr.setCell ⟨mb, 2, none⟩ (.int .i64 m) = w7 at *
          have F7 : Fresh1 w7 cd yd ud vd sd 256 64 64 30 0 false := ⟨F5.out.c.only O7.out (by simp) (by simp) (by simp) (by simp), O7.out.heap F5.out.s (by simp)⟩
          refine (mb4_any F7 (firstF m) m hm9 (by rw [firstF, if_pos rfl]) (fun i h1 h2 => by rw [firstF, if_neg (by omega)])).mono ?_
          rintro e w8 ⟨rfl, ao8, c8, hc8, o8⟩
          obtain ⟨B, hB⟩ : ∃ B, decide (m = 2) = B := ⟨_, rfl⟩
          rw [hB] at hc8 ⊢
          obtain ⟨c8v, hc8v⟩ : ∃ c8v : Int, (if B then 0 else 2200) = c8v := ⟨_, rfl⟩
          rw [hc8v]
          have hq1 : decide (c8v = 0) = B := by rw [← hc8v]; cases B <;> rfl
          have hq2 : (c8v == 0) = B := by rw [← hc8v]; cases B <;> rfl
          have hq3 : decide ((m : Int) = 2) = B := by rw [← hB]; exact decide_eq_decide.2 (by omega)
          have hq4 : ((m : Int) == 2) = B := by rw [← hq3]; rfl
          have hbb : (B == B) = true := by cases B <;> rfl
          have n1 := lt_of_block F5.out.c.st
          have n2 := lt_of_block F5.out.c.ys.choose_spec
          have n3 := lt_of_block F5.out.c.us.choose_spec
          have n4 := lt_of_block F5.out.c.vs.choose_spec
          have n5 := lt_of_block F5.out.s
          have hm8 : w8.cell? ⟨mb, 2, none⟩ = some (.int .i64 m) := by
            rw [cells_of (o8.heap W7.out (by simp; omega))]
            exact mode_cell 0 0 0 0 0 (firstF m) z28 _ 0 (by omega)
          have C8 := Lib.hid hc8
          have D8 := Lib.hid ((C5.out.only O7.out (by simp) (by simp) (by simp) (by simp)).only o8 HNE2.out.1 HNE2.out.2.1 HNE2.out.2.2.1 HNE2.out.2.2.2)
          have O8 := Lib.hid ((O5.out.trans O7.out).trans' o8 (fun i hi => .inr (by have := HL5.out; simp only [List.mem_cons, List.not_mem_nil, or_false] at hi; omega)))
          clear hc8 o8 F7 O7 W7 hB hc8v n1 n2 n3 n4 n5 HMS
          go_wp2_with fail
          refine wp_region_L (by kernel_rfl) (fun w' => w'.cell? ⟨mb, 2, none⟩ = some (.int .i64 m) ∧ Only [] w8 w') 20 ?_
          have hS0 : (fun w' => w'.cell? ⟨mb, 2, none⟩ = some (.int .i64 m) ∧ Only [] w8 w') w8.drew := ⟨hm8, (Only.refl [] w8).drew⟩
          refine AnyL.take 0 (v := ?_) rfl (by kernel_rfl) (by kernel_rfl) (by kernel_rfl) (by kernel_rfl) (fun _ _ _ h => h) (by assumption) (Or.inl ⟨by rfl, ?_⟩) ?_
          rotate_left
          · (intro w' hSw; (try dsimp only at hSw); go_simp; try (with_reducible rfl))
          try simp only [Act.put, List.setIfInBounds_toArray, List.set_cons_zero, List.set_cons_succ]
          refine AnyL.one 1 (by kernel_rfl) rfl (fun K hK => ?_)
          go_simp
          refine (raw_even (D8.out.only hS0.2 (by simp) (by simp) (by simp) (by simp))).mono ?_
          rintro e x1 ⟨ya, ua, va, rfl, a1, a2, a3, oo1⟩
          have S1 : (fun w' => w'.cell? ⟨mb, 2, none⟩ = some (.int .i64 m) ∧ Only [] w8 w') x1 := ⟨oo1.cell hS0.1 (by simp), hS0.2.trans oo1⟩
          refine hK _ _ (fun _ => S1) (fun _ => ?_)
          clear hK K
          try simp only [Act.put, List.setIfInBounds_toArray, List.set_cons_zero, List.set_cons_succ]
          refine AnyL.one 2 (by kernel_rfl) rfl (fun K hK => ?_)
          go_simp
          refine (grey_even x1).mono ?_
          rintro e x2 ⟨yb', ub', vb', rfl, b1, b2, b3, oo2⟩
          have S2 : (fun w' => w'.cell? ⟨mb, 2, none⟩ = some (.int .i64 m) ∧ Only [] w8 w') x2 := ⟨oo2.cell S1.1 (by simp), S1.2.trans oo2⟩
          refine hK _ _ (fun _ => S2) (fun _ => ?_)
          clear hK K
          try simp only [Act.put, List.setIfInBounds_toArray, List.set_cons_zero, List.set_cons_succ]
          refine AnyL.one 3 (by kernel_rfl) rfl (fun K hK => ?_)
          go_simp
          refine (same_frame (a1.only oo2) b1 (a2.only oo2) b2 (a3.only oo2) b3).mono ?_
          rintro e x3 ⟨rfl, oo3⟩
          have S3 : (fun w' => w'.cell? ⟨mb, 2, none⟩ = some (.int .i64 m) ∧ Only [] w8 w') x3 := ⟨oo3.cell S2.1 (by simp), S2.2.trans oo3⟩
          refine hK _ _ (fun _ => S3) (fun _ => ?_)
          clear hK K
          try simp only [Act.put, List.setIfInBounds_toArray, List.set_cons_zero, List.set_cons_succ]
          clear a1 a2 a3 b1 b2 b3 oo1 oo2 oo3 S1 S2
          refine AnyL.take 4 (v := ?_) rfl (by kernel_rfl) (by kernel_rfl) (by kernel_rfl) (by kernel_rfl) (fun _ _ _ h => h) (by assumption) (Or.inl ⟨by rfl, ?_⟩) ?_
          rotate_left
          · (intro w' hSw; (try dsimp only at hSw); go_simp; try (with_reducible rfl))
          try simp only [Act.put, List.setIfInBounds_toArray, List.set_cons_zero, List.set_cons_succ]
          refine AnyL.take 5 (v := ?_) rfl (by kernel_rfl) (by kernel_rfl) (by kernel_rfl) (by kernel_rfl) (fun _ _ _ h => h) (by assumption) (Or.inl ⟨by rfl, ?_⟩) ?_
          rotate_left
          · (intro w' hSw; (try dsimp only at hSw); go_simp; try (with_reducible rfl))
          try simp only [Act.put, List.setIfInBounds_toArray, List.set_cons_zero, List.set_cons_succ]
          refine AnyL.one 6 (by kernel_rfl) rfl (fun K hK => ?_)
          go_simp
          refine (raw_even (C8.out.only S3.2 (by simp) (by simp) (by simp) (by simp))).mono ?_
          rintro e x4 ⟨ya, ua, va, rfl, a1, a2, a3, oo4⟩
          have S4 : (fun w' => w'.cell? ⟨mb, 2, none⟩ = some (.int .i64 m) ∧ Only [] w8 w') x4 := ⟨oo4.cell S3.1 (by simp), S3.2.trans oo4⟩
          refine hK _ _ (fun _ => S4) (fun _ => ?_)
          clear hK K
          try simp only [Act.put, List.setIfInBounds_toArray, List.set_cons_zero, List.set_cons_succ]
          refine AnyL.one 7 (by kernel_rfl) rfl (fun K hK => ?_)
          go_simp
          refine (grey_even x4).mono ?_
          rintro e x5 ⟨yb', ub', vb', rfl, b1, b2, b3, oo5⟩
          have S5 : (fun w' => w'.cell? ⟨mb, 2, none⟩ = some (.int .i64 m) ∧ Only [] w8 w') x5 := ⟨oo5.cell S4.1 (by simp), S4.2.trans oo5⟩
          refine hK _ _ (fun _ => S5) (fun _ => ?_)
          clear hK K
          try simp only [Act.put, List.setIfInBounds_toArray, List.set_cons_zero, List.set_cons_succ]
          refine AnyL.one 8 (by kernel_rfl) rfl (fun K hK => ?_)
          go_simp
          refine (same_frame (a1.only oo5) b1 (a2.only oo5) b2 (a3.only oo5) b3).mono ?_
          rintro e x6 ⟨rfl, oo6⟩
          have S6 : (fun w' => w'.cell? ⟨mb, 2, none⟩ = some (.int .i64 m) ∧ Only [] w8 w') x6 := ⟨oo6.cell S5.1 (by simp), S5.2.trans oo6⟩
          refine hK _ _ (fun _ => S6) (fun _ => ?_)
          clear hK K
          try simp only [Act.put, List.setIfInBounds_toArray, List.set_cons_zero, List.set_cons_succ]
          clear a1 a2 a3 b1 b2 b3 oo4 oo5 oo6 S4 S5
          refine AnyL.take 9 (v := ?_) rfl (by kernel_rfl) (by kernel_rfl) (by kernel_rfl) (by kernel_rfl) (fun _ _ _ h => h) (by assumption) (Or.inl ⟨by rfl, ?_⟩) ?_
          rotate_left
          · (intro w' hSw; (try dsimp only at hSw); go_simp; try (with_reducible rfl))
          try simp only [Act.put, List.setIfInBounds_toArray, List.set_cons_zero, List.set_cons_succ]
          refine AnyL.take 10 (v := ?_) rfl (by kernel_rfl) (by kernel_rfl) (by kernel_rfl) (by kernel_rfl) (fun _ _ _ h => h) (by assumption) (Or.inl ⟨by rfl, ?_⟩) ?_
          rotate_left
          · (intro w' hSw; (try dsimp only at hSw); go_simp; try (with_reducible rfl))
          try simp only [Act.put, List.setIfInBounds_toArray, List.set_cons_zero, List.set_cons_succ]
          refine AnyL.take 11 (v := ?_) rfl (by kernel_rfl) (by kernel_rfl) (by kernel_rfl) (by kernel_rfl) (fun _ _ _ h => h) (by assumption) (Or.inl ⟨by rfl, ?_⟩) ?_
          rotate_left
          · (intro w' hSw; (try dsimp only at hSw); go_simp; try (with_reducible rfl))
          try simp only [Act.put, List.setIfInBounds_toArray, List.set_cons_zero, List.set_cons_succ]
          refine AnyL.take 14 (v := ?_) rfl (by kernel_rfl) (by kernel_rfl) (by kernel_rfl) (by kernel_rfl) (fun _ _ _ h => h) (by assumption) (Or.inl ⟨by rfl, ?_⟩) ?_
          rotate_left
          · (intro w' hSw; (try dsimp only at hSw); go_simp; try (with_reducible rfl))
          try simp only [Act.put, List.setIfInBounds_toArray, List.set_cons_zero, List.set_cons_succ]
          refine AnyL.take 15 (v := ?_) rfl (by kernel_rfl) (by kernel_rfl) (by kernel_rfl) (by kernel_rfl) (fun _ _ _ h => h) (by assumption) (Or.inl ⟨by rfl, ?_⟩) ?_
          rotate_left
          · (intro w' hSw; (try dsimp only at hSw); go_simp; try (with_reducible rfl))
          try simp only [Act.put, List.setIfInBounds_toArray, List.set_cons_zero, List.set_cons_succ]
          refine AnyL.take 16 (v := ?_) rfl (by kernel_rfl) (by kernel_rfl) (by kernel_rfl) (by kernel_rfl) (fun _ _ _ h => h) (by assumption) (Or.inl ⟨by rfl, ?_⟩) ?_
          rotate_left
          · (intro w' hSw; (try dsimp only at hSw); go_simp; try (with_reducible rfl))
          try simp only [Act.put, List.setIfInBounds_toArray, List.set_cons_zero, List.set_cons_succ]
          refine AnyL.take 17 (v := ?_) rfl (by kernel_rfl) (by kernel_rfl) (by kernel_rfl) (by kernel_rfl) (fun _ _ _ h => h) (by assumption) (Or.inl ⟨by rfl, ?_⟩) ?_
          rotate_left
          · (intro w' hSw; (try dsimp only at hSw); go_simp; try (with_reducible rfl))
          try simp only [Act.put, List.setIfInBounds_toArray, List.set_cons_zero, List.set_cons_succ]
          refine AnyL.one 12 (by kernel_rfl) rfl (fun K hK => ?_)
          go_simp
          refine (num_any _ _).mono ?_
          rintro e w' ⟨rfl, rfl⟩
          refine hK _ _ (fun _ => S6) (fun _ => ?_)
          clear hK K
          try simp only [Act.put, List.setIfInBounds_toArray, List.set_cons_zero, List.set_cons_succ]
          refine AnyL.take 13 (v := ?_) rfl (by kernel_rfl) (by kernel_rfl) (by kernel_rfl) (by kernel_rfl) (fun _ _ _ h => h) (by assumption) (Or.inl ⟨by rfl, ?_⟩) ?_
          rotate_left
          · (intro w' hSw; (try dsimp only at hSw); go_simp; try (with_reducible rfl))
          try simp only [Act.put, List.setIfInBounds_toArray, List.set_cons_zero, List.set_cons_succ]
          refine AnyL.take 18 (v := ?_) rfl (by kernel_rfl) (by kernel_rfl) (by kernel_rfl) (by kernel_rfl) (fun _ _ _ h => h) (by assumption) (Or.inl ⟨by rfl, ?_⟩) ?_
          rotate_left
          · (intro w' hSw; (try dsimp only at hSw); go_simp; try (with_reducible rfl))
          try simp only [Act.put, List.setIfInBounds_toArray, List.set_cons_zero, List.set_cons_succ]
          refine AnyL.take 19 (v := ?_) rfl (by kernel_rfl) (by kernel_rfl) (by kernel_rfl) (by kernel_rfl) (fun _ _ _ h => h) (by assumption) (Or.inl ⟨by rfl, ?_⟩) ?_
          rotate_left
          · (intro w' hSw; (try dsimp only at hSw); go_simp; try (with_reducible rfl))
          try simp only [Act.put, List.setIfInBounds_toArray, List.set_cons_zero, List.set_cons_succ]
          refine AnyL.one 20 (by kernel_rfl) rfl (fun K hK => ?_)
          go_simp
          refine hK _ _ (fun h => (h rfl).elim) (fun _ => ?_)
          clear hK K
          try simp only [Act.put, List.setIfInBounds_toArray, List.set_cons_zero, List.set_cons_succ]
          refine AnyL.done (by kernel_rfl) ?_ _
          go_wp2_with fail
          go_ret
          exact ⟨rfl, O8.out.trans S6.2⟩
end Go.Proofs.YtcmehedjdfopdaaGreat
