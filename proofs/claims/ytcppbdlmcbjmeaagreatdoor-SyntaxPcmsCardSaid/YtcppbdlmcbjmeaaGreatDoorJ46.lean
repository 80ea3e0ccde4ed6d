/-
  SyntaxPcms: the walk.
-/
import Derived.Test.YtcppbdlmcbjmeaaGreatDoorJ42
import Derived.Great.BuildSlice
namespace Go.Proofs.YtcppbdlmcbjmeaaGreatDoor
open Go.RowKit

/-- A slice value that reads as a list of bytes. -/
def ByteSlice (w : World) (v : Value) (xs : List Int) : Prop :=
  ∃ ao cap, v = .slice ao xs.length cap ∧ (xs = [] ∨ ∃ g off, ao = some ⟨g, off, none⟩ ∧ ∀ i, i < xs.length → w.cell? ⟨g, off + i, none⟩ = some (.int .u8 (xs.getD i 0)))
theorem ByteSlice.on {w w' : World} {v : Value} {xs : List Int} (h : ByteSlice w v xs) (ho : Only [] w w') : ByteSlice w' v xs := by
  obtain ⟨ao, cap, rfl, hx⟩ := h
  refine ⟨ao, cap, rfl, ?_⟩
  rcases hx with hx | ⟨g, off, rfl, hc⟩
  · exact .inl hx
  · exact .inr ⟨g, off, rfl, fun i hi => ho.cell (hc i hi) (by simp)⟩
set_option maxRecDepth 100000 in
theorem lw_sameBytes {v1 v2 : Value} {s : ByteArray} {w : World} (e1 : StrOf w v1 s) (e2 : StrOf w v2 s) : Calls Tryz.prog 23 #[v1, v2] w fun e w' => e = .returned (.bool true) ∧ w = w' := by
  unfold StrOf at e1 e2
  go_enter Tryz.func23, Tryz.ntmps23
  go_wp2
  go_ret
  exact ⟨rfl, rfl⟩
/-- A macroblock by its samples. -/
def pcY : Nat → Int := fun j => if j = 0 then 2 else 0
def pcV (v : Value) : Nat → Value := fun j => if j = 482 then v else .int .i64 (pcY j)
theorem pcV_at {v : Value} {j : Nat} (h : j < 482) : pcV v j = .int .i64 (pcY j) := by
  unfold pcV
  rw [if_neg (by omega)]
theorem pcY_zero {j : Nat} (h : j ≠ 0) : pcY j = 0 := by
  unfold pcY
  rw [if_neg h]
theorem built_pc (v : Value) (a : Option Addr) (l c : Nat) (hv : v = .slice a l c) : Tryz.prog.built 51 [(0, .int .i64 2), (10, v)] = some (fnA 483 (pcV v)) := by
  subst hv
  kernel_rfl
def pcM (q : Nat → Int) : MbN := ⟨pcY, q⟩
theorem pc_body : bodyOk pcY 384 2 ∧ ¬ bodyOk pcY 383 2 := by
  have hc : coefsOk pcY := (coefsOk_iff (L := 0) (G := 0) (by decide) (by decide) rfl).2 ⟨fun e => absurd e (show (2 : Int) ≠ 1 by decide), fun b hb => by
      have h : ∀ i, i < 16 → pcY (50 + b * 16 + i) = 0 := fun i hi => pcY_zero (by omega)
      exact ⟨fun _ => h, fun _ => h 0 (by decide), fun i hi => by rw [h i hi]; decide⟩, fun k hk => by
      have h : ∀ i, i < 16 → pcY (434 + k * 16 + i) = 0 := fun i hi => pcY_zero (by omega)
      exact ⟨fun _ => h, fun _ i hi => pcY_zero (by omega), fun i hi => by rw [h i hi]; decide⟩⟩
  refine ⟨⟨.inr (.inr (.inr (.inr rfl))), ⟨.inr (allEq_iff.2 fun i hi => pcY_zero (by omega)), .inr (.inr rfl), .inr rfl, .inr rfl, .inl rfl⟩, ?_, hc, fun e => absurd e (show (2 : Int) ≠ 0 by decide), fun e => absurd e (show (2 : Int) ≠ 1 by decide), fun _ => ⟨rfl, rfl⟩, fun _ => rfl⟩, fun h => ?_⟩
  · show (if toldB 2 0 = true then (0 : Int) ≤ 0 ∧ (0 : Int) ≤ 51 else (0 : Int) = 0)
    rw [if_neg (by decide)]
  · have := (h.2.2.2.2.2.2.1 rfl).1
    omega
theorem pcM_ok {q : Nat → Int} (h : ∀ i, i < 384 → 0 ≤ q i ∧ q i ≤ 255) : (pcM q).ok where
  body := pc_body.1
  parts := fun i hi => pcY_zero (by omega)
  pcm := h
/-- A literal of three elements that have many cells. -/
theorem fill_three {f : Nat → Option (Nat × Nat)} {Z A B C : Array Value} {n : Nat} (h0 : f 0 = some (0, n)) (h1 : f 1 = some (n, n)) (h2 : f 2 = some (n + n, n)) (hA : A.size = n) (hB : B.size = n) (hC : C.size = n) (hZ : Z.size = n + n + n) :
    Instr.fill f Z [(0, .agg A), (1, .agg B), (2, .agg C)] = some (A.toList ++ B.toList ++ C.toList).toArray := by
  have lA : A.toList.length = n := by simpa using hA
  have lB : B.toList.length = n := by simpa using hB
  have lC : C.toList.length = n := by simpa using hC
  have step : ∀ (W X : Array Value) (o : Nat), X.size = n → o + n ≤ W.size → (X.zipIdx.foldl (fun cs x => cs.setIfInBounds (o + x.2) x.1) W).size = W.size ∧ ∀ i, (X.zipIdx.foldl (fun cs x => cs.setIfInBounds (o + x.2) x.1) W)[i]? = if o ≤ i ∧ i < o + n then X.toList[i - o]? else W[i]? := by
    intro W X o hX hW
    have hXl : X.toList.length = n := by simpa using hX
    have hsz : ∀ (l : List (Value × Nat)) (W : Array Value), (l.foldl (fun cs x => cs.setIfInBounds (o + x.2) x.1) W).size = W.size := by
      intro l
      induction l with
      | nil => intro W; rfl
      | cons x l ih => intro W; rw [List.foldl_cons, ih]; simp
    rw [← Array.foldl_toList, Array.toList_zipIdx]
    refine ⟨hsz _ _, fun i => ?_⟩
    rw [fold_set o X.toList 0 W i (by omega), Nat.add_zero, hXl]
  obtain ⟨s1, g1⟩ := step Z A 0 hA (by omega)
  obtain ⟨s2, g2⟩ := step _ B n hB (by rw [s1]; omega)
  obtain ⟨s3, g3⟩ := step _ C (n + n) hC (by rw [s2, s1]; omega)
  have e : Instr.fill f Z [(0, .agg A), (1, .agg B), (2, .agg C)] = some (C.zipIdx.foldl (fun cs x => cs.setIfInBounds (n + n + x.2) x.1) (B.zipIdx.foldl (fun cs x => cs.setIfInBounds (n + x.2) x.1) (A.zipIdx.foldl (fun cs x => cs.setIfInBounds (0 + x.2) x.1) Z))) := by
    unfold Instr.fill
    rw [h0]
    show (if A.size ≠ n || 0 + A.size > Z.size then none else Instr.fill f (A.zipIdx.foldl (fun cs x => cs.setIfInBounds (0 + x.2) x.1) Z) [(1, .agg B), (2, .agg C)]) = _
    rw [if_neg (by simp; omega)]
    unfold Instr.fill
    rw [h1]
    show (if B.size ≠ n || n + B.size > (A.zipIdx.foldl (fun cs x => cs.setIfInBounds (0 + x.2) x.1) Z).size then none else Instr.fill f (B.zipIdx.foldl (fun cs x => cs.setIfInBounds (n + x.2) x.1) (A.zipIdx.foldl (fun cs x => cs.setIfInBounds (0 + x.2) x.1) Z)) [(2, .agg C)]) = _
    rw [s1, if_neg (by simp; omega)]
    unfold Instr.fill
    rw [h2]
    show (if C.size ≠ n || n + n + C.size > (B.zipIdx.foldl (fun cs x => cs.setIfInBounds (n + x.2) x.1) (A.zipIdx.foldl (fun cs x => cs.setIfInBounds (0 + x.2) x.1) Z)).size then none else Instr.fill f (C.zipIdx.foldl (fun cs x => cs.setIfInBounds (n + n + x.2) x.1) (B.zipIdx.foldl (fun cs x => cs.setIfInBounds (n + x.2) x.1) (A.zipIdx.foldl (fun cs x => cs.setIfInBounds (0 + x.2) x.1) Z))) []) = _
    rw [s2, s1, if_neg (by simp; omega)]
    unfold Instr.fill
    rfl
  rw [e]
  congr 1
  apply Array.ext_getElem?
  intro i
  rw [g3, g2, g1]
  simp only [List.getElem?_toArray]
  by_cases i0 : i < n
  · rw [if_neg (by omega), if_neg (by omega), if_pos (by omega), List.append_assoc, List.getElem?_append_left (by omega), Nat.sub_zero]
  · by_cases i1 : i < n + n
    · rw [if_neg (by omega), if_pos (by omega), List.append_assoc, List.getElem?_append_right (by omega), List.getElem?_append_left (by omega), lA]
    · rw [List.getElem?_append_right (by rw [List.length_append]; omega), List.length_append, lA, lB]
      by_cases i2 : i < n + n + n
      · rw [if_pos (by omega)]
      · rw [if_neg (by omega), if_neg (by omega), if_neg (by omega), List.getElem?_eq_none (by omega), Array.getElem?_eq_none (by omega)]
theorem wpList_build3 {P : Program} {w : World} {ops : Array Oper} {rest : List Oper} {o : Oper} {a : Act} {Q : Exit → Act → World → Prop} (hg : o.guard = none) (t : TypeId) (x y z : Operand) (ho : o.op = .buildSlice t 3 #[(0, x), (1, y), (2, z)]) {e : TypeId} {zv : Value} {size bytes : Nat} (E : Elt P t e zv size bytes) (A B C : Array Value) (hx : a.eval x = .agg A) (hy : a.eval y = .agg B) (hz : a.eval z = .agg C)
    (hsz : size ≤ 1000) (hA : A.size = size) (hB : B.size = size) (hC : C.size = size)
    (h : wpList P ops Q rest (a.put o.dst (.slice (some ⟨w.heap.size, 0, none⟩) 3 3)) (w.alloc (.cells (A.toList ++ B.toList ++ C.toList).toArray e))) : wpList P ops Q (o :: rest) a w := by
  obtain ⟨i, hi, hzv, hs, hbt⟩ := info_parts E.hi
  have hpos := E.pos
  refine wpList_buildSlice hg t e 3 _ ho _ i zv E.ht hi hzv (by rw [hs]; omega) (by rw [hs]; omega) ?_ h
  simp only [List.map_toArray, List.map_cons, List.map_nil, hx, hy, hz, hs]
  exact fill_three (by simp) (by simp) (by simp; omega) hA hB hC (by simp; omega)
set_option maxRecDepth 100000 in
set_option maxHeartbeats 12800000 in
theorem walk_pcms {xs : List Int} {v : Value} {cb : Bool} {w : World} (hA : Asc w) (haw : Calls Tryz.prog 11 #[] w fun e w' => e = .returned (.bool true) ∧ Only [] w w') (hS : ByteSlice w v xs) (hl : xs.length ≤ 9223372036854775807) (hx : ∀ i, 0 ≤ xs.getD i 0 ∧ xs.getD i 0 ≤ 255) :
    Calls Tryz.prog 6 #[v, .bool cb] w fun e w' => e = .returned (.bool true) ∧ Only [] w w' := by
  have HAW := Lib.hid haw
  have HA := Lib.hid hA
  have HS := Lib.hid hS
  have Hx := Lib.hid hx
  clear haw hA hS hx
  go_enter Tryz.func6, Tryz.ntmps6
  go_wp2_with fail
  refine HAW.out.mono ?_
  rintro e w1 ⟨rfl, o1⟩
  have O1 := Lib.hid o1
  have HA1 := Lib.hid (HA.out.only o1 (by simp))
  have HS1 := Lib.hid (HS.out.on o1)
  clear o1 HA HS HAW
  obtain ⟨N, hN⟩ : ∃ N, N = xs.length := ⟨_, rfl⟩
  obtain ⟨ao, cap, hv, hcell⟩ := HS1.out
  rw [← hN] at hv hl hcell
  subst hv
  have HN := Lib.hid hN
  have Hcell := Lib.hid hcell
  clear hN hcell HS1
  go_wp2_with (refine wpList_make1 rfl _ _ rfl elt8 rfl 384 rfl rfl rfl rfl (by decide) (by decide) ?_)
  intro w2 hw2 ho2 hs2
  obtain ⟨pb, hpb⟩ : ∃ pb, pb = w1.heap.size := ⟨_, rfl⟩
  rw [← hpb] at hw2
  rw [← hpb]
  have HP0 : Hid (PcmIs w2 pb (fun _ => 0)) := Lib.hid ⟨_, hw2, fun i hi => ⟨by rw [zrow, List.getElem?_toArray, List.getElem?_replicate, if_pos hi], (show (0 : Int) ≤ 0 by decide), (show (0 : Int) ≤ 255 by decide)⟩⟩
  have O2 : Hid (Only [] w1 w2) := Lib.hid ho2
  have Hpb := Lib.hid hpb
  clear hw2 ho2 hs2 hpb
  go_wp2
  go_loopw [6] (fun q wr => ∃ (i : Nat) (f : Nat → Int), i ≤ 384 ∧ q = .int .i64 (i : Int) ∧ Hid (PcmIs wr pb f ∧ Only [] w1 wr)) (fun q _ => (384 - intOf q).toNat)
  case atStart => exact ⟨0, fun _ => 0, by decide, rfl, Lib.hid ⟨HP0.out, O2.out⟩⟩
  case round =>
    obtain ⟨i, f, hi, rfl, Hi⟩ := hrel
    by_cases hi2 : i < 384
    · have cb0 := Hi.out.1.cell i hi2
      have zb0 := Hi.out.1.free i
      have hfr : w1.heap.size ≤ pb := by rw [Hpb.out]; exact Nat.le_refl _
      have hsx : 0 ≤ (i : Int) * 11 % 256 ∧ (i : Int) * 11 % 256 ≤ 255 := by omega
      have H1 : Hid (PcmIs (wr.setCell ⟨pb, i, none⟩ (.int .u8 ((i : Int) * 11 % 256))) pb (fun j => if j = i then (i : Int) * 11 % 256 else f j)) := Lib.hid (Hi.out.1.set i _ hsx)
      have O1i : Hid (Only [] w1 (wr.setCell ⟨pb, i, none⟩ (.int .u8 ((i : Int) * 11 % 256)))) := Lib.hid (Hi.out.2.setCell (.inr hfr) _)
      clear hsx
      by_cases hN0 : N = 0
      · subst hN0
        go_wp2
        exact ⟨⟨i + 1, _, by omega, rfl, Lib.hid ⟨H1.out, O1i.out⟩⟩, by simp [intOf]; omega⟩
      · obtain ⟨g, off, rfl, hcg⟩ : ∃ g off, ao = some ⟨g, off, none⟩ ∧ ∀ j, j < N → (wr.setCell ⟨pb, i, none⟩ (.int .u8 ((i : Int) * 11 % 256))).cell? ⟨g, off + j, none⟩ = some (.int .u8 (xs.getD j 0)) := by
          rcases Hcell.out with h | ⟨g, off, h1, h2⟩
          · have := HN.out; rw [h] at this; simp at this; omega
          · exact ⟨g, off, h1, fun j hj => O1i.out.cell (h2 j hj) (by simp)⟩
        obtain ⟨I, hI, hIN⟩ : ∃ I : Nat, (i : Int) % N = I ∧ I < N := ⟨i % N, by simp, Nat.mod_lt _ (by omega)⟩
        have hcI := hcg I hIN
        have hxr := Hx.out I
        generalize xs.getD I 0 = x at hcI hxr
        have HI := Lib.hid hI
        have cb1 := H1.out.cell i hi2
        have zb1 := H1.out.free i
        have H2 : Hid (PcmIs ((wr.setCell ⟨pb, i, none⟩ (.int .u8 ((i : Int) * 11 % 256))).setCell ⟨pb, i, none⟩ (.int .u8 x)) pb (fun j => if j = i then x else if j = i then (i : Int) * 11 % 256 else f j)) := Lib.hid (H1.out.set i x hxr)
        have O2i : Hid (Only [] w1 ((wr.setCell ⟨pb, i, none⟩ (.int .u8 ((i : Int) * 11 % 256))).setCell ⟨pb, i, none⟩ (.int .u8 x))) := Lib.hid (O1i.out.setCell (.inr hfr) _)
        clear hcg hI hxr H1 O1i
        go_wp2_with (refine held_at 34 rfl ?_)
        refine ⟨?_⟩
        rw [HI.out]
        go_wp2
        exact ⟨⟨i + 1, _, by omega, rfl, Lib.hid ⟨H2.out, O2i.out⟩⟩, by simp [intOf]; omega⟩
    · obtain rfl : i = 384 := by omega
      obtain ⟨pv, hpv⟩ : ∃ pv, pv = Value.slice (some ⟨pb, 0, none⟩) 384 384 := ⟨_, rfl⟩
      obtain ⟨AL, hAL⟩ : ∃ AL, AL = (fnA 483 (pcV pv)).toList := ⟨_, rfl⟩
      obtain ⟨BL, hBL⟩ : ∃ BL, BL = (fnA 483 (mbV (dcY 33))).toList := ⟨_, rfl⟩
      have eA : fnA 483 (pcV pv) = AL.toArray := by rw [hAL, fnA_toArray]
      have eB : fnA 483 (mbV (dcY 33)) = BL.toArray := by rw [hBL, fnA_toArray]
      have hAb := built_pc (.slice (some ⟨pb, 0, none⟩) 384 384) _ _ _ rfl
      rw [← hpv, eA, hpv] at hAb
      have hBb := built_dc 33
      rw [eB] at hBb
      have HAb := Lib.hid hAb
      have HBb := Lib.hid hBb
      have HA483 := Lib.hid (show AL.length = 483 by rw [hAL, fnA_list_length])
      have HB483 := Lib.hid (show BL.length = 483 by rw [hBL, fnA_list_length])
      have HA48 := Lib.hid (show AL.toArray.size = 483 by rw [List.size_toArray, HA483.out])
      have HB48 := Lib.hid (show BL.toArray.size = 483 by rw [List.size_toArray, HB483.out])
      have HAL := Lib.hid hAL
      have HBL := Lib.hid hBL
      have HeA := Lib.hid eA
      have HeB := Lib.hid eB
      have Hpv := Lib.hid hpv
      clear hAb hBb hAL hBL eA eB hpv
      go_wp2_with (refine held_at 38 rfl ?_)
      refine ⟨?_⟩
      refine wpList_build rfl 51 _ rfl AL.toArray (Eq.trans (by kernel_rfl) HAb.out) ?_
      go_wp2_with (refine held_at 39 rfl ?_)
      refine ⟨?_⟩
      refine wpList_build rfl 51 _ rfl BL.toArray (Eq.trans (by kernel_rfl) HBb.out) ?_
      go_wp2_with (refine held_at 41 rfl ?_)
      refine ⟨?_⟩
      refine wpList_build rfl 51 _ rfl AL.toArray (Eq.trans (by kernel_rfl) HAb.out) ?_
      go_wp2_with (refine held_at 42 rfl ?_)
      refine ⟨?_⟩
      refine wpList_build3 rfl 29 _ _ _ rfl eltMb AL.toArray BL.toArray AL.toArray rfl rfl rfl (by decide) HA48.out HB48.out HA48.out ?_
      have hg := heap_alloc_at wr (.cells (AL.toArray.toList ++ BL.toArray.toList ++ AL.toArray.toList).toArray 51)
      have O5 : Hid (Only [] w1 (wr.alloc (.cells (AL.toArray.toList ++ BL.toArray.toList ++ AL.toArray.toList).toArray 51))) := Lib.hid (Hi.out.2.alloc _)
      have HP5 : Hid (PcmIs (wr.alloc (.cells (AL.toArray.toList ++ BL.toArray.toList ++ AL.toArray.toList).toArray 51)) pb f) := Lib.hid (Hi.out.1.only ((Only.refl [] wr).alloc _) (by simp))
      generalize wr.alloc (.cells (AL.toArray.toList ++ BL.toArray.toList ++ AL.toArray.toList).toArray 51) = w5 at *
      obtain ⟨g, hgd⟩ : ∃ g, g = wr.heap.size := ⟨_, rfl⟩
      rw [← hgd] at hg ⊢
      obtain ⟨ms, hms⟩ : ∃ ms, ms = [pcM f, dcM 33, pcM f] := ⟨_, rfl⟩
      have hfr : ∀ i, i < 384 → 0 ≤ f i ∧ f i ≤ 255 := fun i hi => by
        obtain ⟨cur, -, h2⟩ := Hi.out.1
        exact (h2 i hi).2
      have hrow : ∀ (i : Nat) (X : Nat → Value), [pcV pv, mbV (dcY 33), pcV pv][i]? = some X → w5.rangeAt g (i * 483) (fnA 483 X).toList := fun i X hX j u hu => by
        have hj2 : j < 483 := by
          apply Classical.byContradiction
          intro e
          rw [List.getElem?_eq_none (by rw [fnA_list_length]; omega)] at hu
          cases hu
        have e : (AL.toArray.toList ++ BL.toArray.toList ++ AL.toArray.toList) = mbsA [pcV pv, mbV (dcY 33), pcV pv] := by
          rw [← HeA.out, ← HeB.out]
          simp [mbsA]
        rw [cells_of hg, e, List.getElem?_toArray, mbsA_at _ i j X hX hj2, hu]
      have hin : ∀ wx, PcmIs wx pb f → MbIn wx (pcV pv) (pcM f) := fun wx hx => ⟨fun j hj => pcV_at hj, _, _, _, Hpv.out, rfl, fun h => absurd rfl h, fun _ => ⟨pb, rfl, fun i hi => hx.cell i hi⟩⟩
      have hM : MbsAt w5 g ms := ⟨fun i m hm => by
        rw [hms] at hm
        match i, hm with
        | 0, hm =>
          obtain rfl : pcM f = m := by simpa using hm
          exact ⟨pcV pv, hrow 0 _ rfl, hin w5 HP5.out⟩
        | 1, hm =>
          obtain rfl : dcM 33 = m := by simpa using hm
          exact ⟨mbV (dcY 33), hrow 1 _ rfl, mbV_in (m := dcM 33) (show (1 : Int) ≠ 2 by decide)⟩
        | 2, hm =>
          obtain rfl : pcM f = m := by simpa using hm
          exact ⟨pcV pv, hrow 2 _ rfl, hin w5 HP5.out⟩
        | i + 3, hm => simp at hm⟩
      have hok : ∀ m ∈ ms, m.ok := fun m hm => by
        rw [hms] at hm
        simp only [List.mem_cons, List.not_mem_nil, or_false] at hm
        rcases hm with rfl | rfl | rfl
        · exact pcM_ok hfr
        · exact dcM_ok (by decide)
        · exact pcM_ok hfr
      have hml : ms.length = 3 := by rw [hms]; rfl
      have HA5 := Lib.hid (HA1.out.only O5.out (by simp))
      obtain ⟨HL, hHL⟩ : ∃ HL, HL = hdL (hdQ 3 20) := ⟨_, rfl⟩
      obtain ⟨PL, hPL⟩ : ∃ PL, PL = ppsQ cb := ⟨_, rfl⟩
      have Hgo := Lib.hid (law_there (wide := 3) (cabac := cb) (qp := 20) (hd := hdQ 3 20) (PL := ppsQ cb) (a0 := 0) (a1 := 0) (cnt := 3) (k := 3) (cap := 3) HA5.out (by show _ = some 9; kernel_rfl) rfl (hdQ_is 3 20) rfl (by decide) (by decide) (by decide) (by decide) (by rw [hml]; rfl) (by rw [hml]; decide) (by rw [hml]; decide) hok hml.symm hM)
      rw [← hHL, ← hPL] at Hgo
      have hHb := built_hdQ 3 20
      rw [← hHL] at hHb
      have hPb := built_ppsQ cb
      rw [← hPL] at hPb
      have HHb := Lib.hid hHb
      have HPb := Lib.hid hPb
      have Hr1 : Hid (w5.rangeAt g 483 BL) := Lib.hid (by rw [HBL.out]; exact hrow 1 _ rfl)
      have Hms := Lib.hid hms
      have Hml := Lib.hid hml
      clear hHL hPL hHb hPb hM HA5 hrow hin hok hg hms hml hfr hgd
      go_wp2_with (first
        | (refine wpList_build rfl 26 _ rfl HL.toArray (Eq.trans (by kernel_rfl) HHb.out) ?_)
        | (refine wpList_build rfl 28 _ rfl PL.toArray (Eq.trans (by kernel_rfl) HPb.out) ?_))
      refine Hgo.out.mono ?_
      rintro e w8 ⟨v8, Xs, rfl, o8, own8, len8, mb8⟩
      rw [Hml.out] at own8 len8
      obtain ⟨gx, capx, rfl, -, hgx⟩ := row_shape own8 (by decide)
      have O8 : Hid (Only [] w5 w8) := Lib.hid o8
      obtain ⟨X0, X1, X2, rfl⟩ : ∃ X0 X1 X2, Xs = [X0, X1, X2] := by
        match Xs, len8 with
        | [a, b, c], _ => exact ⟨a, b, c, rfl⟩
      have m0 := mb8 0 (pcM f) X0 (by rw [Hms.out]; rfl) rfl
      have m1 := mb8 1 (dcM 33) X1 (by rw [Hms.out]; rfl) rfl
      have m2 := mb8 2 (pcM f) X2 (by rw [Hms.out]; rfl) rfl
      obtain ⟨p0, c0, e0, P0, -, -⟩ := m0.pcm rfl
      obtain ⟨p2, c2, e2, P2, -, -⟩ := m2.pcm rfl
      have P5 := HP5.out.only o8 (by simp)
      obtain ⟨str, hstr⟩ : ∃ str, str = strOfNums ((List.range 384).map f) := ⟨_, rfl⟩
      have hst : ∀ (wy : World) (b cap : Nat), PcmIs wy b f → StrOf wy (.slice (some ⟨b, 0, none⟩) 384 cap) str := fun wy b cap hx => by
        rw [hstr]
        exact strOf_bytes (by simp) (fun i hi => by rw [hx.cell i hi]; simp [List.getD, hi])
      have Hst : Hid (∀ wy, Only [] w8 wy → StrOf wy (X0 482) str ∧ StrOf wy (X2 482) str ∧ StrOf wy (.slice (some ⟨pb, 0, none⟩) 384 384) str) := Lib.hid (fun wy hy => by
        rw [e0, e2]
        exact ⟨hst wy p0 c0 (P0.only hy (by simp)), hst wy p2 c2 (P2.only hy (by simp)), hst wy pb 384 (P5.only hy (by simp))⟩)
      have r0 := row_range own8 (i := 0) (X := X0) rfl
      have r1 := row_range own8 (i := 1) (X := X1) rfl
      have r2 := row_range own8 (i := 2) (X := X2) rfl
      have k0 : Hid (w8.cell? ⟨gx, 482, none⟩ = some (X0 482)) := Lib.hid (r0 482 (X0 482) (by simp [fnA]))
      have k2 : Hid (w8.cell? ⟨gx, 1448, none⟩ = some (X2 482)) := Lib.hid (r2 482 (X2 482) (by simp [fnA]))
      obtain ⟨YL, hYL⟩ : ∃ YL, YL = (fnA 483 X1).toList := ⟨_, rfl⟩
      have HrY : Hid (w8.rangeAt gx 483 YL) := Lib.hid (by rw [hYL]; exact r1)
      have HrB : Hid (w8.rangeAt g 483 BL) := Lib.hid (fun j u hu => o8.cell (Hr1.out j u hu) (by simp))
      have HYi := Lib.hid (show (Tryz.prog.info? 51).map (·.size) = some YL.length by rw [hYL, fnA_list_length]; kernel_rfl)
      have HBi := Lib.hid (show (Tryz.prog.info? 51).map (·.size) = some BL.length by rw [HB483.out]; kernel_rfl)
      have Hsame : Hid (∀ wx, Calls Tryz.prog 20 #[.agg YL.toArray, .agg BL.toArray] wx fun e w' => e = .returned (.bool true) ∧ Only [] wx w') := Lib.hid (fun wx => by
        have e1 : YL.toArray = fnA 483 X1 := by rw [hYL, fnA_toArray]
        rw [e1, ← HeB.out]
        exact rf_same m1.cell (fun i hi => mbV_at hi) (s := ByteArray.empty) (fun wy _ => by rw [m1.nil (show (1 : Int) ≠ 2 by decide)]; exact strOf_nil wy 0 0) (fun wy _ => by exact strOf_nil wy 0 0))
      have Ow8 : Hid (Only [] w w8) := Lib.hid ((O1.out.trans O5.out).trans o8)
      -- the macroblock that lacks a sample
      obtain ⟨CL, hCL⟩ : ∃ CL, CL = (fnA 483 (pcV (.slice (some ⟨pb, 0, none⟩) 383 384))).toList := ⟨_, rfl⟩
      have eC : fnA 483 (pcV (.slice (some ⟨pb, 0, none⟩) 383 384)) = CL.toArray := by rw [hCL, fnA_toArray]
      have hCb := built_pc (.slice (some ⟨pb, 0, none⟩) 383 384) _ _ _ rfl
      rw [eC] at hCb
      have HCb := Lib.hid hCb
      have HC483 := Lib.hid (show CL.length = 483 by rw [hCL, fnA_list_length])
      have HCi := Lib.hid (show (Tryz.prog.info? 51).map (·.size) = some CL.length by rw [HC483.out]; kernel_rfl)
      have HCj := Lib.hid (show (Tryz.prog.info? 51).map (·.size) = some CL.toArray.size by rw [List.size_toArray]; exact HCi.out)
      have HCz := Lib.hid ((show Tryz.zeroCells51.size = 483 by kernel_rfl).trans (show CL.toArray.size = 483 by rw [List.size_toArray, HC483.out]).symm)
      have HC1 : Hid (CL.toArray.all (·.oneCell') = true) := Lib.hid (by
        rw [← eC, Array.all_eq_true_iff_forall_mem]
        intro u hu
        obtain ⟨j, hj, rfl⟩ : ∃ j, j < 483 ∧ pcV (.slice (some ⟨pb, 0, none⟩) 383 384) j = u := by simpa [fnA] using hu
        unfold pcV
        split <;> rfl)
      have Hmay : Hid (∀ (wx : World) (Hc : Array Value), Hc[2]? = some (.int .i64 2) → Calls Tryz.prog 24 #[.agg CL.toArray, .agg Hc] wx fun e w' => e = .returned (.bool false) ∧ Only [] wx w') := Lib.hid (fun wx Hc hH => by
        rw [← eC]
        refine (my_may (y := pcY) (len := 383) (cap := 384) (ao := some ⟨pb, 0, none⟩) (t := 2) (.inr (.inr rfl)) hH (fun j hj => pcV_at hj) rfl (show (2 : Int) ≠ 4 by decide)).mono ?_
        rintro e w' ⟨b, rfl, hb, ho⟩
        refine ⟨?_, ho⟩
        cases b with
        | false => rfl
        | true => exact absurd (hb.1 rfl).1 pc_body.2)
      clear e0 e2 P0 P2 P5 m0 m1 m2 r0 r1 r2 own8 len8 mb8 o8 hst hstr hYL hCL eC hCb Hgo
      go_wp2_with (refine held_at 53 rfl ?_)
      refine ⟨?_⟩
      refine wpList_build rfl 51 _ rfl CL.toArray (Eq.trans (by kernel_rfl) HCb.out) ?_
      go_wp2_with (refine wpList_store_agg rfl 51 _ _ rfl w8.heap.size CL.toArray rfl rfl (heap_alloc_at w8 _) HCj.out HCz.out HC1.out ?_)
      intro w9 hw9 ho9
      obtain ⟨bk, hbk⟩ : ∃ bk, bk = w8.heap.size := ⟨_, rfl⟩
      rw [← hbk] at hw9 ho9 ⊢
      have O9 : Hid (Only [] w8 w9) := Lib.hid (((Only.refl [] w8).alloc _).trans' ho9 (fun i hi => .inr (by simp at hi; omega)))
      have HrC : Hid (w9.rangeAt bk 0 CL) := Lib.hid (fun j u hu => by rw [Nat.zero_add, cells_of hw9]; simpa using hu)
      clear hw9 ho9 hbk
      go_wp2_with fail
      refine wp_region_L (by kernel_rfl) (fun w' => w'.cell? ⟨gx, 482, none⟩ = some (X0 482) ∧ w'.cell? ⟨gx, 1448, none⟩ = some (X2 482) ∧ w'.rangeAt gx 483 YL ∧ w'.rangeAt g 483 BL ∧ w'.rangeAt bk 0 CL) 37 ?_
      have hS0 : (fun w' : World => w'.cell? ⟨gx, 482, none⟩ = some (X0 482) ∧ w'.cell? ⟨gx, 1448, none⟩ = some (X2 482) ∧ w'.rangeAt gx 483 YL ∧ w'.rangeAt g 483 BL ∧ w'.rangeAt bk 0 CL) w9.drew := ⟨O9.out.cell k0.out (by simp), O9.out.cell k2.out (by simp), fun j u hu => O9.out.cell (HrY.out j u hu) (by simp), fun j u hu => O9.out.cell (HrB.out j u hu) (by simp), HrC.out⟩
      have Od : Hid (Only [] w8 w9.drew) := Lib.hid O9.out.drew
      clear O9 k0 k2 HrY HrB HrC
      have hSo := hS0
      have Oo := Od
      clear Od
      refine AnyL.take 0 (v := ?_) rfl (by kernel_rfl) (by kernel_rfl) (by kernel_rfl) (by kernel_rfl) (fun _ _ _ h => h) (by assumption) (Or.inl ⟨by rfl, ?_⟩) ?_
      rotate_left
      · (intro w' hSw; (try dsimp only at hSw); go_simp; try (with_reducible rfl))
      try simp only [Act.put, List.setIfInBounds_toArray, List.set_cons_zero, List.set_cons_succ]
      refine AnyL.take 1 (v := ?_) rfl (by kernel_rfl) (by kernel_rfl) (by kernel_rfl) (by kernel_rfl) (fun _ _ _ h => h) (by assumption) (Or.inl ⟨by rfl, ?_⟩) ?_
      rotate_left
      · (intro w' hSw; (try dsimp only at hSw); go_simp; try (with_reducible rfl))
      try simp only [Act.put, List.setIfInBounds_toArray, List.set_cons_zero, List.set_cons_succ]
      refine AnyL.take 2 (v := ?_) rfl (by kernel_rfl) (by kernel_rfl) (by kernel_rfl) (by kernel_rfl) (fun _ _ _ h => h) (by assumption) (Or.inl ⟨by rfl, ?_⟩) ?_
      rotate_left
      · (intro w' hSw; (try dsimp only at hSw); go_simp; try (with_reducible rfl))
      try simp only [Act.put, List.setIfInBounds_toArray, List.set_cons_zero, List.set_cons_succ]
      refine AnyL.take 3 (v := ?_) rfl (by kernel_rfl) (by kernel_rfl) (by kernel_rfl) (by kernel_rfl) (fun _ _ _ h => h) (by assumption) (Or.inl ⟨by rfl, ?_⟩) ?_
      rotate_left
      · (intro w' hSw; (try dsimp only at hSw); go_simp; try (with_reducible rfl))
      try simp only [Act.put, List.setIfInBounds_toArray, List.set_cons_zero, List.set_cons_succ]
      refine AnyL.take 4 (v := ?_) rfl (by kernel_rfl) (by kernel_rfl) (by kernel_rfl) (by kernel_rfl) (fun _ _ _ h => h) (by assumption) (Or.inl ⟨by rfl, ?_⟩) ?_
      rotate_left
      · (intro w' hSw; (try dsimp only at hSw); go_simp; try (with_reducible rfl))
      try simp only [Act.put, List.setIfInBounds_toArray, List.set_cons_zero, List.set_cons_succ]
      refine AnyL.take 5 (v := ?_) rfl (by kernel_rfl) (by kernel_rfl) (by kernel_rfl) (by kernel_rfl) (fun _ _ _ h => h) (by assumption) (Or.inl ⟨by rfl, ?_⟩) ?_
      rotate_left
      · (intro w' hSw; (try dsimp only at hSw); go_simp; try (with_reducible rfl))
      try simp only [Act.put, List.setIfInBounds_toArray, List.set_cons_zero, List.set_cons_succ]
      refine AnyL.take 6 (v := ?_) rfl (by kernel_rfl) (by kernel_rfl) (by kernel_rfl) (by kernel_rfl) (fun _ _ _ h => h) (by assumption) (Or.inl ⟨by rfl, ?_⟩) ?_
      rotate_left
      · (intro w' hSw; (try dsimp only at hSw); go_simp; try (with_reducible rfl))
      try simp only [Act.put, List.setIfInBounds_toArray, List.set_cons_zero, List.set_cons_succ]
      refine AnyL.take 7 (v := ?_) rfl (by kernel_rfl) (by kernel_rfl) (by kernel_rfl) (by kernel_rfl) (fun _ _ _ h => h) (by assumption) (Or.inl ⟨by rfl, ?_⟩) ?_
      rotate_left
      · (intro w' hSw; (try dsimp only at hSw); go_simp; try (with_reducible rfl))
      try simp only [Act.put, List.setIfInBounds_toArray, List.set_cons_zero, List.set_cons_succ]
      refine AnyL.take 8 (v := ?_) rfl (by kernel_rfl) (by kernel_rfl) (by kernel_rfl) (by kernel_rfl) (fun _ _ _ h => h) (by assumption) (Or.inl ⟨by rfl, ?_⟩) ?_
      rotate_left
      · (intro w' hSw; (try dsimp only at hSw); go_simp; try (with_reducible rfl))
      try simp only [Act.put, List.setIfInBounds_toArray, List.set_cons_zero, List.set_cons_succ]
      refine AnyL.take 9 (v := ?_) rfl (by kernel_rfl) (by kernel_rfl) (by kernel_rfl) (by kernel_rfl) (fun _ _ _ h => h) (by assumption) (Or.inl ⟨by rfl, ?_⟩) ?_
      rotate_left
      · (intro w' hSw; (try dsimp only at hSw); go_simp; try (with_reducible rfl))
      try simp only [Act.put, List.setIfInBounds_toArray, List.set_cons_zero, List.set_cons_succ]
      refine AnyL.take 10 (v := ?_) rfl (by kernel_rfl) (by kernel_rfl) (by kernel_rfl) (by kernel_rfl) (fun _ _ _ h => h) (by assumption) (Or.inl ⟨by rfl, ?_⟩) ?_
      rotate_left
      · (intro w' hSw; (try dsimp only at hSw); go_simp; try (with_reducible rfl))
      try simp only [Act.put, List.setIfInBounds_toArray, List.set_cons_zero, List.set_cons_succ]
      refine AnyL.take 11 (v := ?_) rfl (by kernel_rfl) (by kernel_rfl) (by kernel_rfl) (by kernel_rfl) (fun _ _ _ h => h) (by assumption) (Or.inl ⟨by rfl, ?_⟩) ?_
      rotate_left
      · (intro w' hSw; (try dsimp only at hSw); go_simp; try (with_reducible rfl))
      try simp only [Act.put, List.setIfInBounds_toArray, List.set_cons_zero, List.set_cons_succ]
      refine AnyL.one 12 (by kernel_rfl) rfl (fun K hK => ?_)
      (try rw [if_pos (by rfl)])
      go_simp
      refine (lw_sameBytes (Hst.out _ Oo.out).1 (Hst.out _ Oo.out).2.2).mono ?_
      rintro e wn ⟨rfl, rfl⟩
      refine hK _ _ (fun _ => hSo) (fun hKq => ?_)
      clear hK K hKq
      try simp only [Act.put, List.setIfInBounds_toArray, List.set_cons_zero, List.set_cons_succ]
      refine AnyL.take 13 (v := ?_) rfl (by kernel_rfl) (by kernel_rfl) (by kernel_rfl) (by kernel_rfl) (fun _ _ _ h => h) (by assumption) (Or.inl ⟨by rfl, ?_⟩) ?_
      rotate_left
      · (intro w' hSw; (try dsimp only at hSw); go_simp; try (with_reducible rfl))
      try simp only [Act.put, List.setIfInBounds_toArray, List.set_cons_zero, List.set_cons_succ]
      refine AnyL.take 14 (v := ?_) rfl (by kernel_rfl) (by kernel_rfl) (by kernel_rfl) (by kernel_rfl) (fun _ _ _ h => h) (by assumption) (Or.inl ⟨by rfl, ?_⟩) ?_
      rotate_left
      · (intro w' hSw; (try dsimp only at hSw); go_simp; try (with_reducible rfl))
      try simp only [Act.put, List.setIfInBounds_toArray, List.set_cons_zero, List.set_cons_succ]
      refine AnyL.take 15 (v := ?_) rfl (by kernel_rfl) (by kernel_rfl) (by kernel_rfl) (by kernel_rfl) (fun _ _ _ h => h) (by assumption) (Or.inl ⟨by rfl, ?_⟩) ?_
      rotate_left
      · (intro w' hSw; (try dsimp only at hSw); go_simp; try (with_reducible rfl))
      try simp only [Act.put, List.setIfInBounds_toArray, List.set_cons_zero, List.set_cons_succ]
      refine AnyL.take 16 (v := ?_) rfl (by kernel_rfl) (by kernel_rfl) (by kernel_rfl) (by kernel_rfl) (fun _ _ _ h => h) (by assumption) (Or.inl ⟨by rfl, ?_⟩) ?_
      rotate_left
      · (intro w' hSw; (try dsimp only at hSw); go_simp; try (with_reducible rfl))
      try simp only [Act.put, List.setIfInBounds_toArray, List.set_cons_zero, List.set_cons_succ]
      refine AnyL.take 17 (v := ?_) rfl (by kernel_rfl) (by kernel_rfl) (by kernel_rfl) (by kernel_rfl) (fun _ _ _ h => h) (by assumption) (Or.inl ⟨by rfl, ?_⟩) ?_
      rotate_left
      · (intro w' hSw; (try dsimp only at hSw); go_simp; try (with_reducible rfl))
      try simp only [Act.put, List.setIfInBounds_toArray, List.set_cons_zero, List.set_cons_succ]
      refine AnyL.take 18 (v := ?_) rfl (by kernel_rfl) (by kernel_rfl) (by kernel_rfl) (by kernel_rfl) (fun _ _ _ h => h) (by assumption) (Or.inl ⟨by rfl, ?_⟩) ?_
      rotate_left
      · (intro w' hSw; (try dsimp only at hSw); go_simp; try (with_reducible rfl))
      try simp only [Act.put, List.setIfInBounds_toArray, List.set_cons_zero, List.set_cons_succ]
      refine AnyL.take 19 (v := ?_) rfl (by kernel_rfl) (by kernel_rfl) (by kernel_rfl) (by kernel_rfl) (fun _ _ _ h => h) (by assumption) (Or.inl ⟨by rfl, ?_⟩) ?_
      rotate_left
      · (intro w' hSw; (try dsimp only at hSw); go_simp; try (with_reducible rfl))
      try simp only [Act.put, List.setIfInBounds_toArray, List.set_cons_zero, List.set_cons_succ]
      refine AnyL.one 20 (by kernel_rfl) rfl (fun K hK => ?_)
      (try rw [if_pos (by rfl)])
      go_simp
      refine (lw_sameBytes (Hst.out _ Oo.out).2.1 (Hst.out _ Oo.out).2.2).mono ?_
      rintro e wn ⟨rfl, rfl⟩
      refine hK _ _ (fun _ => hSo) (fun hKq => ?_)
      clear hK K hKq
      try simp only [Act.put, List.setIfInBounds_toArray, List.set_cons_zero, List.set_cons_succ]
      refine AnyL.take 21 (v := ?_) rfl (by kernel_rfl) (by kernel_rfl) (by kernel_rfl) (by kernel_rfl) (fun _ _ _ h => h) (by assumption) (Or.inl ⟨by rfl, ?_⟩) ?_
      rotate_left
      · (intro w' hSw; (try dsimp only at hSw); go_simp; try (with_reducible rfl))
      try simp only [Act.put, List.setIfInBounds_toArray, List.set_cons_zero, List.set_cons_succ]
      refine AnyL.take 22 (v := ?_) rfl (by kernel_rfl) (by kernel_rfl) (by kernel_rfl) (by kernel_rfl) (fun _ _ _ h => h) (by assumption) (Or.inl ⟨by rfl, ?_⟩) ?_
      rotate_left
      · (intro w' hSw; (try dsimp only at hSw); go_simp; try (with_reducible rfl))
      try simp only [Act.put, List.setIfInBounds_toArray, List.set_cons_zero, List.set_cons_succ]
      refine AnyL.take 23 (v := ?_) rfl (by kernel_rfl) (by kernel_rfl) (by kernel_rfl) (by kernel_rfl) (fun _ _ _ h => h) (by assumption) (Or.inl ⟨by rfl, ?_⟩) ?_
      rotate_left
      · (intro w' hSw; (try dsimp only at hSw); go_simp; try (with_reducible rfl))
      try simp only [Act.put, List.setIfInBounds_toArray, List.set_cons_zero, List.set_cons_succ]
      refine AnyL.take 24 (v := ?_) rfl (by kernel_rfl) (by kernel_rfl) (by kernel_rfl) (by kernel_rfl) (fun _ _ _ h => h) (by assumption) (Or.inl ⟨by rfl, ?_⟩) ?_
      rotate_left
      · (intro w' hSw; (try dsimp only at hSw); go_simp; try (with_reducible rfl))
      try simp only [Act.put, List.setIfInBounds_toArray, List.set_cons_zero, List.set_cons_succ]
      refine AnyL.take 25 rfl (by kernel_rfl) (by kernel_rfl) (by kernel_rfl) (by kernel_rfl) (fun _ _ _ h => h) (by assumption) (yieldsIf_load_mid (by rfl) _ _ rfl gx 483 rfl YL _ (fun w' h => h.2.2.1) Tryz.underlying51 rfl HYi.out) ?_
      try simp only [Act.put, List.setIfInBounds_toArray, List.set_cons_zero, List.set_cons_succ]
      refine AnyL.take 26 (v := ?_) rfl (by kernel_rfl) (by kernel_rfl) (by kernel_rfl) (by kernel_rfl) (fun _ _ _ h => h) (by assumption) (Or.inl ⟨by rfl, ?_⟩) ?_
      rotate_left
      · (intro w' hSw; (try dsimp only at hSw); go_simp; try (with_reducible rfl))
      try simp only [Act.put, List.setIfInBounds_toArray, List.set_cons_zero, List.set_cons_succ]
      refine AnyL.take 27 (v := ?_) rfl (by kernel_rfl) (by kernel_rfl) (by kernel_rfl) (by kernel_rfl) (fun _ _ _ h => h) (by assumption) (Or.inl ⟨by rfl, ?_⟩) ?_
      rotate_left
      · (intro w' hSw; (try dsimp only at hSw); go_simp; try (with_reducible rfl))
      try simp only [Act.put, List.setIfInBounds_toArray, List.set_cons_zero, List.set_cons_succ]
      refine AnyL.take 28 rfl (by kernel_rfl) (by kernel_rfl) (by kernel_rfl) (by kernel_rfl) (fun _ _ _ h => h) (by assumption) (yieldsIf_load_mid (by rfl) _ _ rfl g 483 rfl BL _ (fun w' h => h.2.2.2.1) Tryz.underlying51 rfl HBi.out) ?_
      try simp only [Act.put, List.setIfInBounds_toArray, List.set_cons_zero, List.set_cons_succ]
      refine AnyL.one 29 (by kernel_rfl) rfl (fun K hK => ?_)
      (try rw [if_pos (by rfl)])
      go_simp
      refine (Hsame.out _).mono ?_
      rintro e wn ⟨rfl, on⟩
      have hSn : (fun w' : World => w'.cell? ⟨gx, 482, none⟩ = some (X0 482) ∧ w'.cell? ⟨gx, 1448, none⟩ = some (X2 482) ∧ w'.rangeAt gx 483 YL ∧ w'.rangeAt g 483 BL ∧ w'.rangeAt bk 0 CL) wn := ⟨on.cell hSo.1 (by simp), on.cell hSo.2.1 (by simp), fun j u hu => on.cell (hSo.2.2.1 j u hu) (by simp), fun j u hu => on.cell (hSo.2.2.2.1 j u hu) (by simp), fun j u hu => on.cell (hSo.2.2.2.2 j u hu) (by simp)⟩
      have On : Hid (Only [] w8 wn) := Lib.hid (Oo.out.trans on)
      clear on
      refine hK _ _ (fun _ => hSn) (fun hKq => ?_)
      clear hK K hKq hSo Oo
      have hSo := hSn
      have Oo := On
      clear hSn On
      try simp only [Act.put, List.setIfInBounds_toArray, List.set_cons_zero, List.set_cons_succ]
      refine AnyL.take 30 (v := ?_) rfl (by kernel_rfl) (by kernel_rfl) (by kernel_rfl) (by kernel_rfl) (fun _ _ _ h => h) (by assumption) (Or.inl ⟨by rfl, ?_⟩) ?_
      rotate_left
      · (intro w' hSw; (try dsimp only at hSw); go_simp; try (with_reducible rfl))
      try simp only [Act.put, List.setIfInBounds_toArray, List.set_cons_zero, List.set_cons_succ]
      refine AnyL.take 31 (v := ?_) rfl (by kernel_rfl) (by kernel_rfl) (by kernel_rfl) (by kernel_rfl) (fun _ _ _ h => h) (by assumption) (Or.inl ⟨by rfl, ?_⟩) ?_
      rotate_left
      · (intro w' hSw; (try dsimp only at hSw); go_simp; try (with_reducible rfl))
      try simp only [Act.put, List.setIfInBounds_toArray, List.set_cons_zero, List.set_cons_succ]
      refine AnyL.take 32 rfl (by kernel_rfl) (by kernel_rfl) (by kernel_rfl) (by kernel_rfl) (fun _ _ _ h => h) (by assumption) (yieldsIf_load_mid (by rfl) _ _ rfl bk 0 rfl CL _ (fun w' h => h.2.2.2.2) Tryz.underlying51 rfl HCi.out) ?_
      try simp only [Act.put, List.setIfInBounds_toArray, List.set_cons_zero, List.set_cons_succ]
      refine AnyL.take 33 (v := ?_) rfl (by kernel_rfl) (by kernel_rfl) (by kernel_rfl) (by kernel_rfl) (fun _ _ _ h => h) (by assumption) (Or.inl ⟨by rfl, ?_⟩) ?_
      rotate_left
      · (intro w' hSw; (try dsimp only at hSw); go_simp; try (with_reducible rfl))
      try simp only [Act.put, List.setIfInBounds_toArray, List.set_cons_zero, List.set_cons_succ]
      refine AnyL.one 34 (by kernel_rfl) rfl (fun K hK => ?_)
      (try rw [if_pos (by rfl)])
      go_simp
      refine (Hmay.out _ _ rfl).mono ?_
      rintro e wn ⟨rfl, on⟩
      have hSn : (fun w' : World => w'.cell? ⟨gx, 482, none⟩ = some (X0 482) ∧ w'.cell? ⟨gx, 1448, none⟩ = some (X2 482) ∧ w'.rangeAt gx 483 YL ∧ w'.rangeAt g 483 BL ∧ w'.rangeAt bk 0 CL) wn := ⟨on.cell hSo.1 (by simp), on.cell hSo.2.1 (by simp), fun j u hu => on.cell (hSo.2.2.1 j u hu) (by simp), fun j u hu => on.cell (hSo.2.2.2.1 j u hu) (by simp), fun j u hu => on.cell (hSo.2.2.2.2 j u hu) (by simp)⟩
      have On : Hid (Only [] w8 wn) := Lib.hid (Oo.out.trans on)
      clear on
      refine hK _ _ (fun _ => hSn) (fun hKq => ?_)
      clear hK K hKq hSo Oo
      have hSo := hSn
      have Oo := On
      clear hSn On
      try simp only [Act.put, List.setIfInBounds_toArray, List.set_cons_zero, List.set_cons_succ]
      refine AnyL.take 35 (v := ?_) rfl (by kernel_rfl) (by kernel_rfl) (by kernel_rfl) (by kernel_rfl) (fun _ _ _ h => h) (by assumption) (Or.inl ⟨by rfl, ?_⟩) ?_
      rotate_left
      · (intro w' hSw; (try dsimp only at hSw); go_simp; try (with_reducible rfl))
      try simp only [Act.put, List.setIfInBounds_toArray, List.set_cons_zero, List.set_cons_succ]
      refine AnyL.take 36 (v := ?_) rfl (by kernel_rfl) (by kernel_rfl) (by kernel_rfl) (by kernel_rfl) (fun _ _ _ h => h) (by assumption) (Or.inl ⟨by rfl, ?_⟩) ?_
      rotate_left
      · (intro w' hSw; (try dsimp only at hSw); go_simp; try (with_reducible rfl))
      try simp only [Act.put, List.setIfInBounds_toArray, List.set_cons_zero, List.set_cons_succ]
      refine AnyL.one 37 (by kernel_rfl) rfl (fun K hK => ?_)
      go_simp
      refine hK _ _ (fun _ => hSo) (fun hKq => ?_)
      clear hK K hKq
      try simp only [Act.put, List.setIfInBounds_toArray, List.set_cons_zero, List.set_cons_succ]
      refine AnyL.done (by kernel_rfl) ?_ _
      have hO := Lib.hid (Ow8.out.trans Oo.out)
      clear Oo hSo
      go_wp2
      go_ret
      exact ⟨rfl, hO.out⟩
end Go.Proofs.YtcppbdlmcbjmeaaGreatDoor
