/-
  Chapter 21's awake: the walk.
-/
import Derived.Test.YtcppbdlmcbjmeaaGreatDoorJ42
namespace Go.Proofs.YtcppbdlmcbjmeaaGreatDoor
open Go.RowKit

theorem built_pps0 : Tryz.prog.built 28 [(7, .int .i64 1), (8, .int .i64 1)] = some (ppsQ false).toArray := by kernel_rfl
theorem ppsQ_one (c : Bool) : (ppsQ c).toArray.all (·.oneCell') = true := by kernel_rfl
/-- Two structs are what a function answers. -/
theorem ret_cells2 {P : Program} {fn : Func} {p q : Tmp} {t1 t2 : TypeId} {post : Ending → World → Prop} {a : Act} {w : World} (h : fn.results = #[.cell p t1, .cell q t2]) (g1 g2 : Nat) {u1 u2 : TypeId} {c1 c2 : Array Value} {d1 d2 : TypeDesc}
    (hp : a.tmps.getD p undef = .pointer (some ⟨g1, 0, none⟩)) (hq : a.tmps.getD q undef = .pointer (some ⟨g2, 0, none⟩)) (hg1 : w.heap[g1]? = some (.cells c1 u1 (0, 0))) (hg2 : w.heap[g2]? = some (.cells c2 u2 (0, 0)))
    (hu1 : P.underlying t1 = some d1) (hd1 : (match d1 with | .struct _ | .array _ _ => true | _ => false) = true) (hi1 : (P.info? t1).map (·.size) = some c1.size)
    (hu2 : P.underlying t2 = some d2) (hd2 : (match d2 with | .struct _ | .array _ _ => true | _ => false) = true) (hi2 : (P.info? t2).map (·.size) = some c2.size) (hdf : a.defers = [])
    (hpost : post (.returned (.tuple #[.agg c1, .agg c2])) w) : bodyPost P fn post .ret a w := by
  have hp' : a.tmps[p]?.getD undef = .pointer (some ⟨g1, 0, none⟩) := by simpa using hp
  have hq' : a.tmps[q]?.getD undef = .pointer (some ⟨g2, 0, none⟩) := by simpa using hq
  refine bodyPost_ret (v := .tuple #[.agg c1, .agg c2]) ?_ hdf hpost
  simp [results, h, hp', hq', asAddr, run_loadVar_row w g1 u1 t1 c1 (0, 0) d1 hg1 hu1 hd1 hi1, run_loadVar_row w g2 u2 t2 c2 (0, 0) d2 hg2 hu2 hd2 hi2]
set_option maxRecDepth 100000 in
set_option maxHeartbeats 1600000 in
theorem sx_tiny (w : World) : Calls Tryz.prog 31 #[] w fun e w' => e = .returned (.tuple #[.agg (hdL (hdQ 1 26)).toArray, .agg (ppsQ false).toArray]) ∧ Only [] w w' := by
  have hHb := built_hdQ 1 26
  have hPb := built_pps0
  have h1H := hdQ_one 1 26
  have h1P := ppsQ_one false
  obtain ⟨HL, hHL⟩ : ∃ HL, HL = hdL (hdQ 1 26) := ⟨_, rfl⟩
  obtain ⟨PL, hPL⟩ : ∃ PL, PL = ppsQ false := ⟨_, rfl⟩
  rw [← hHL] at hHb h1H ⊢
  rw [← hPL] at hPb h1P ⊢
  have e1 : HL.toArray.size = 21 := by rw [List.size_toArray, hHL]; rfl
  have e2 : PL.toArray.size = 9 := by rw [List.size_toArray, hPL]; rfl
  have i1 : (Tryz.prog.info? 26).map (·.size) = some HL.toArray.size := by rw [e1]; kernel_rfl
  have i2 : (Tryz.prog.info? 28).map (·.size) = some PL.toArray.size := by rw [e2]; kernel_rfl
  have HHb := Lib.hid hHb
  have HPb := Lib.hid hPb
  have H1H := Lib.hid h1H
  have H1P := Lib.hid h1P
  have E1 := Lib.hid e1
  have E2 := Lib.hid e2
  have I1 := Lib.hid i1
  have I2 := Lib.hid i2
  clear hHb hPb h1H h1P e1 e2 i1 i2 hHL hPL
  go_enter Tryz.func31, Tryz.ntmps31
  go_wp2_with (first
    | (refine wpList_build rfl 26 _ rfl HL.toArray (Eq.trans (by kernel_rfl) HHb.out) ?_)
    | (refine wpList_build rfl 28 _ rfl PL.toArray (Eq.trans (by kernel_rfl) HPb.out) ?_)
    | (refine wpList_store_agg rfl 26 _ _ rfl w.heap.size HL.toArray rfl rfl (heap_alloc_lt _ (heap_alloc_at w _)) I1.out (Eq.trans rfl E1.out.symm) H1H.out ?_))
  intro w2 hw2 ho2
  have hP := ho2.heap (heap_alloc_at (w.alloc _) _) (by simp)
  rw [World.size_alloc] at hP
  have O2 := Lib.hid ((((Only.refl [] w).alloc _).alloc _).trans' ho2 (fun i hi => .inr (by simp at hi; omega)))
  have W2 := Lib.hid hw2
  clear hw2 ho2
  go_wp2_with (refine wpList_store_agg rfl 28 _ _ rfl (w.heap.size + 1) PL.toArray rfl rfl hP I2.out (Eq.trans rfl E2.out.symm) H1P.out ?_)
  intro w3 hw3 ho3
  have O3 := Lib.hid (O2.out.trans' ho3 (fun i hi => .inr (by simp at hi; omega)))
  have hh3 := ho3.heap W2.out (by simp)
  clear ho3 hP
  go_wp2
  refine ret_cells2 rfl w.heap.size (w.heap.size + 1) rfl rfl hh3 hw3 Tryz.underlying26 rfl I1.out Tryz.underlying28 rfl I2.out rfl ?_
  exact ⟨rfl, O3.out⟩
set_option maxRecDepth 100000 in
set_option maxHeartbeats 1600000 in
theorem sx_newWriterNil {HL PL : List Value} {wide : Int} {w : World} : Calls Tryz.prog 12 #[.pointer none, .agg HL.toArray, .agg PL.toArray, .int .i64 wide] w fun e w' => e = .returned (.tuple #[.pointer none, .int .i64 1]) ∧ Only [] w w' := by
  have O1 := Lib.hid (((Only.refl [] w).alloc (.cells HL.toArray 26)).alloc (.cells PL.toArray 28))
  go_enter Tryz.func12, Tryz.ntmps12
  go_wp2
  go_ret2
  exact ⟨rfl, O1.out⟩
/-- The macroblock of awake. -/
def awY : Nat → Int := fun j => if j = 434 then 3 else dcY 26 j
def awM : MbN := ⟨awY, fun _ => 0⟩
theorem awY_zero {j : Nat} (h : j ≠ 0 ∧ j ≠ 18 ∧ j ≠ 49 ∧ j ≠ 434) : awY j = 0 := by
  unfold awY dcY
  rw [if_neg (by omega), if_neg (by omega), if_neg (by omega), if_neg (by omega)]
theorem awM_ok : awM.ok where
  body := by
    refine ⟨.inr (.inr (.inr (.inl rfl))), ?_, ?_, ?_, fun e => absurd e (show (1 : Int) ≠ 0 by decide), fun _ => ⟨(show (0 : Int) ≤ 2 ∧ (2 : Int) ≤ 3 by decide), (show (0 : Int) ≤ 0 ∧ (0 : Int) ≤ 3 by decide)⟩, fun e => absurd e (show (1 : Int) ≠ 2 by decide), fun e => absurd e (show (1 : Int) ≠ 3 by decide)⟩
    · exact ⟨.inr (allEq_iff.2 fun i hi => awY_zero (by omega)), .inr (.inl rfl), .inl rfl, .inr rfl, .inr rfl⟩
    · show (if toldB 1 0 = true then (0 : Int) ≤ 26 ∧ (26 : Int) ≤ 51 else (26 : Int) = 0)
      rw [if_pos (by decide)]
      decide
    · refine (coefsOk_iff (L := 0) (G := 0) (by decide) (by decide) rfl).2 ⟨fun _ => .inl rfl, fun b hb => ?_, fun k hk => ?_⟩
      · have h : ∀ i, i < 16 → awY (50 + b * 16 + i) = 0 := fun i hi => awY_zero (by omega)
        refine ⟨fun _ => h, fun _ => h 0 (by decide), fun i hi => ?_⟩
        show -32767 ≤ awY _ ∧ awY _ ≤ 32767
        rw [h i hi]; decide
      · refine ⟨fun hn i hi => ?_, fun h0 i hi => awY_zero (by omega), fun i hi => ?_⟩
        · have : k ≠ 0 := fun e => hn (.inl ⟨e, rfl⟩)
          exact awY_zero (by omega)
        · show -32767 ≤ awY _ ∧ awY _ ≤ 32767
          by_cases h : 434 + k * 16 + i = 434
          · rw [h]; decide
          · rw [awY_zero (by omega)]; decide
  parts := fun i hi => awY_zero (by omega)
  pcm := fun _ _ => (show (0 : Int) ≤ 0 ∧ (0 : Int) ≤ 255 by decide)
set_option maxRecDepth 100000 in
set_option maxHeartbeats 12800000 in
theorem walk_awake {w : World} (hA : Asc w) : Calls Tryz.prog 11 #[] w fun e w' => e = .returned (.bool true) ∧ Only [] w w' := by
  have htiny := fun wx => sx_tiny wx
  have h1H := hdQ_one 1 26
  have h1P := ppsQ_one false
  obtain ⟨HL, hHL⟩ : ∃ HL, HL = hdL (hdQ 1 26) := ⟨_, rfl⟩
  obtain ⟨PL, hPL⟩ : ∃ PL, PL = ppsQ false := ⟨_, rfl⟩
  obtain ⟨T, hT⟩ : ∃ T, T = textOf false 0 1 26 [] [awM] := ⟨_, rfl⟩
  have hok : ∀ m ∈ [awM], m.ok := fun m hm => by rw [List.mem_singleton.1 hm]; exact awM_ok
  have HNW : Hid (∀ wx bb, Asc wx → 0 < bb → WrIs wx bb (.slice none 0 0) [] → Calls Tryz.prog 12 #[.pointer (some ⟨bb, 0, none⟩), .agg HL.toArray, .agg PL.toArray, .int .i64 1] wx (NewW wx (hdQ 1 26) 0 1 26 [awM] T [bb])) := Lib.hid (fun wx bb h1x h2x h3x => by
    rw [hHL, hPL, hT]
    exact new_writer (wide := 1) (ov := .slice none 0 0) h1x (fun gx hg => by simp [Value.ownBlock] at hg; omega) h3x (by decide) rfl (hdQ_is 1 26) rfl (by decide) (by decide) (by decide) (by decide) (by decide) rfl (by decide) hok)
  have HNR : Hid (∀ wx, Asc wx → Calls Tryz.prog 17 #[.string T, .int .i64 0, .agg HL.toArray, .agg PL.toArray, .int .i64 1] wx (NewR wx (hdQ 1 26) 0 1 26 [awM])) := Lib.hid (fun wx h1x => by
    rw [hHL, hPL, hT]
    exact new_reader (wide := 1) (bs := []) h1x (fun b hb => absurd hb (by simp)) (by decide) rfl (hdQ_is 1 26) rfl (by decide) (by decide) (by decide) (by decide) (by decide) rfl (by decide) hok)
  rw [← hHL] at h1H
  rw [← hPL] at h1P
  rw [← hHL, ← hPL] at htiny
  have e1 : HL.toArray.size = 21 := by rw [List.size_toArray, hHL]; rfl
  have e2 : PL.toArray.size = 9 := by rw [List.size_toArray, hPL]; rfl
  have Hhi := Lib.hid (show (Tryz.prog.info? 26).map (·.size) = some HL.length by rw [← List.size_toArray, e1]; kernel_rfl)
  have Hpl := Lib.hid (show (Tryz.prog.info? 28).map (·.size) = some PL.length by rw [← List.size_toArray, e2]; kernel_rfl)
  have HHj := Lib.hid (show (Tryz.prog.info? 26).map (·.size) = some HL.toArray.size by rw [List.size_toArray]; exact Hhi.out)
  have HPj := Lib.hid (show (Tryz.prog.info? 28).map (·.size) = some PL.toArray.size by rw [List.size_toArray]; exact Hpl.out)
  have H1H := Lib.hid h1H
  have H1P := Lib.hid h1P
  have E1 := Lib.hid e1
  have E2 := Lib.hid e2
  have HT := Lib.hid htiny
  have HA := Lib.hid hA
  have Hok := Lib.hid hok
  clear h1H h1P e1 e2 hHL hPL hT hok htiny hA
  go_enter Tryz.func11, Tryz.ntmps11
  go_wp2_with fail
  refine (HT.out w).mono ?_
  rintro e w1 ⟨rfl, o1⟩
  have O1 := Lib.hid o1
  clear o1
  go_wp2_with (refine wpList_store_agg rfl 26 _ _ rfl w1.heap.size HL.toArray rfl rfl (heap_alloc_lt _ (heap_alloc_at w1 _)) HHj.out (Eq.trans rfl E1.out.symm) H1H.out ?_)
  intro w2 hw2 ho2
  have hP := ho2.heap (heap_alloc_at (w1.alloc _) _) (by simp)
  rw [World.size_alloc] at hP
  have O2 : Hid (Only [] w1 w2) := Lib.hid ((((Only.refl [] w1).alloc _).alloc _).trans' ho2 (fun i hi => .inr (by simp at hi; omega)))
  have W2 := Lib.hid hw2
  clear hw2 ho2
  go_wp2_with (refine wpList_store_agg rfl 28 _ _ rfl (w1.heap.size + 1) PL.toArray rfl rfl hP HPj.out (Eq.trans rfl E2.out.symm) H1P.out ?_)
  intro w3 hw3 ho3
  obtain ⟨B1, hB1⟩ : ∃ B1, B1 = w1.heap.size := ⟨_, rfl⟩
  obtain ⟨B2, hB2⟩ : ∃ B2, B2 = w1.heap.size + 1 := ⟨_, rfl⟩
  have hh3 := ho3.heap W2.out (by simp)
  have O3 : Hid (Only [] w w3) := Lib.hid (O1.out.trans (O2.out.trans' ho3 (fun i hi => .inr (by simp at hi; omega))))
  have l1 := lt_of_block hh3
  have l2 := lt_of_block hw3
  rw [← hB2] at hw3 l2
  rw [← hB1] at hh3 l1
  rw [← hB2, ← hB1]
  have HrH : Hid (w3.rangeAt B1 0 HL) := Lib.hid (fun j v hj => by rw [Nat.zero_add, cells_of hh3]; simpa using hj)
  have HrP : Hid (w3.rangeAt B2 0 PL) := Lib.hid (fun j v hj => by rw [Nat.zero_add, cells_of hw3]; simpa using hj)
  clear hw3 ho3 hh3 hP W2 O2 O1 hB1 hB2
  obtain ⟨ZL, hZL⟩ : ∃ ZL, ZL = (fnA 483 (mbV (dcY 26))).toList := ⟨_, rfl⟩
  have eZ : fnA 483 (mbV (dcY 26)) = ZL.toArray := by rw [hZL, fnA_toArray]
  have hb := built_dc 26
  have hZ1 := mbV_one (dcY 26)
  rw [eZ] at hb hZ1
  have hZi : (Tryz.prog.info? 51).map (·.size) = some ZL.toArray.size := by rw [List.size_toArray, hZL, fnA_list_length]; kernel_rfl
  have hZ2 : Tryz.zeroCells51.size = ZL.toArray.size := (show Tryz.zeroCells51.size = 483 by kernel_rfl).trans (show ZL.toArray.size = 483 by rw [List.size_toArray, hZL, fnA_list_length]).symm
  have HZb := Lib.hid hb
  have HZ1 := Lib.hid hZ1
  have HZi := Lib.hid hZi
  have HZ2 := Lib.hid hZ2
  have HeZ := Lib.hid eZ
  clear hb hZ1 hZi hZ2 eZ hZL
  have Hw3 := O3.out.size
  go_wp2_with (first
    | (refine wpList_build rfl 51 _ rfl ZL.toArray (Eq.trans (by kernel_rfl) HZb.out) ?_)
    | (refine wpList_store_agg rfl 51 _ _ rfl w3.heap.size ZL.toArray rfl rfl (heap_alloc_at w3 _) HZi.out HZ2.out HZ1.out ?_))
  intro w4 hw4 ho4
  have hB4 : BlkIn w4 w3.heap.size 483 51 (mbV (dcY 26)) := by unfold BlkIn; rw [HeZ.out]; exact hw4
  have O4 : Hid (Only [] w3 w4) := Lib.hid (((Only.refl [] w3).alloc _).trans' ho4 (fun i hi => .inr (by simp at hi; omega)))
  have c434 : w4.cell? ⟨w3.heap.size, 434, none⟩ = some (.int .i64 0) := by rw [hB4.cell 434 (by decide)]; rfl
  have z434 := hB4.free 434
  have HB5 := Lib.hid (hB4.set 434 (.int .i64 3))
  have O5 : Hid (Only [] w3 (w4.setCell ⟨w3.heap.size, 434, none⟩ (.int .i64 3))) := Lib.hid (O4.out.setCell (.inr (by simp)) _)
  clear hw4 ho4 hB4 O4 HZb HZ1 HZi HZ2 HeZ
  go_wp2_with fail
  generalize w4.setCell ⟨w3.heap.size, 434, none⟩ (.int .i64 3) = w5 at *
  obtain ⟨M, hM⟩ : ∃ M, M = w3.heap.size := ⟨_, rfl⟩
  rw [← hM] at HB5 l1 l2
  rw [← hM]
  obtain ⟨X, hX⟩ : ∃ X, X = upd (mbV (dcY 26)) 434 (.int .i64 3) := ⟨_, rfl⟩
  rw [← hX] at HB5
  have HX : Hid (∀ wx, MbIn wx X awM) := Lib.hid (fun wx => by
    refine ⟨fun j hj => ?_, none, 0, 0, by rw [hX]; rfl, rfl, fun _ => ⟨rfl, rfl⟩, fun h => absurd h (show (1 : Int) ≠ 2 by decide)⟩
    rw [hX]
    show _ = Value.int .i64 (awY j)
    by_cases h : j = 434
    · rw [h, upd_same]; rfl
    · rw [upd_ne _ _ h, mbV_at hj]
      unfold awY
      rw [if_neg h])
  clear hX c434 z434
  have Ow5 : Hid (Only [] w w5) := Lib.hid (O3.out.trans O5.out)
  have HA5 := Lib.hid (HA.out.only Ow5.out (by simp))
  have hrH5 : w5.rangeAt B1 0 HL := fun j v hj => O5.out.cell (HrH.out j v hj) (by simp)
  have hrP5 : w5.rangeAt B2 0 PL := fun j v hj => O5.out.cell (HrP.out j v hj) (by simp)
  have HrH5 := Lib.hid hrH5
  have HrP5 := Lib.hid hrP5
  have hm5 : M < w5.heap.size := HB5.out.lt
  clear hrH5 hrP5 HrH HrP O3 O5 hM Hw3
  refine wp_region_L (by kernel_rfl) (fun w' => w'.rangeAt B1 0 HL ∧ w'.rangeAt B2 0 PL) 8 ?_
  have hS0 : (fun w' : World => w'.rangeAt B1 0 HL ∧ w'.rangeAt B2 0 PL) w5.drew := ⟨HrH5.out, HrP5.out⟩
  refine AnyL.take 1 rfl (by kernel_rfl) (by kernel_rfl) (by kernel_rfl) (by kernel_rfl) (fun _ _ _ h => h) (by assumption) (yieldsIf_load_mid (by rfl) _ _ rfl B1 0 rfl HL _ (fun w' h => h.1) Tryz.underlying26 rfl Hhi.out) ?_
  try simp only [Act.put, List.setIfInBounds_toArray, List.set_cons_zero, List.set_cons_succ]
  refine AnyL.take 2 rfl (by kernel_rfl) (by kernel_rfl) (by kernel_rfl) (by kernel_rfl) (fun _ _ _ h => h) (by assumption) (yieldsIf_load_mid (by rfl) _ _ rfl B2 0 rfl PL _ (fun w' h => h.2) Tryz.underlying28 rfl Hpl.out) ?_
  try simp only [Act.put, List.setIfInBounds_toArray, List.set_cons_zero, List.set_cons_succ]
  refine AnyL.one 0 (by kernel_rfl) rfl (fun K hK => ?_)
  go_simp
  refine (bits_new _).mono ?_
  rintro e w6 ⟨rfl, k1, k2, k3⟩
  have hSw6 : (fun w' : World => w'.rangeAt B1 0 HL ∧ w'.rangeAt B2 0 PL) w6 := ⟨fun j v hj => k2.cell (hS0.1 j v hj) (by simp), fun j v hj => k2.cell (hS0.2 j v hj) (by simp)⟩
  have O6 : Hid (Only [] w5 w6) := Lib.hid ((Only.refl [] w5).drew.trans k2)
  have K1 := Lib.hid k1
  have hbb : w5.heap.size < w6.heap.size := by rw [k3]; exact Nat.lt_succ_self _
  refine hK _ _ (fun _ => hSw6) (fun hKq => ?_)
  clear hK K hKq k1 k2 k3
  try simp only [Act.put, List.setIfInBounds_toArray, List.set_cons_zero, List.set_cons_succ]
  refine AnyL.one 3 (by kernel_rfl) rfl (fun K hK => ?_)
  go_simp
  refine (HNW.out w6 _ (HA5.out.only O6.out (by simp)) (show _ < w5.heap.size from HA5.out.lt) K1.out).mono ?_
  rintro e w7 ⟨wb, c, sb, G, rfl, o7, hb⟩
  have hSw7 : (fun w' : World => w'.rangeAt B1 0 HL ∧ w'.rangeAt B2 0 PL) w7 := ⟨fun j v hj => o7.cell (hSw6.1 j v hj) (by simp; omega), fun j v hj => o7.cell (hSw6.2 j v hj) (by simp; omega)⟩
  have O7 : Hid (Only [] w5 w7) := Lib.hid (O6.out.trans' o7 (fun i hi => .inr (by simp at hi; omega)))
  have hGn : Hid (∀ i ∈ G, w5.heap.size ≤ i) := Lib.hid (fun i hi => by
    rcases hb.new i hi with h | h
    · simp at h; omega
    · omega)
  have HBg := Lib.hid hb
  refine hK _ _ (fun _ => hSw7) (fun hKq => ?_)
  clear hK K hKq o7 hb
  try simp only [Act.put, List.setIfInBounds_toArray, List.set_cons_zero, List.set_cons_succ]
  refine AnyL.take 4 (v := ?_) rfl (by kernel_rfl) (by kernel_rfl) (by kernel_rfl) (by kernel_rfl) (fun _ _ _ h => h) (by assumption) (Or.inl ⟨by rfl, ?_⟩) ?_
  rotate_left
  · (intro w' hSw; (try dsimp only at hSw); go_simp; try (with_reducible rfl))
  try simp only [Act.put, List.setIfInBounds_toArray, List.set_cons_zero, List.set_cons_succ]
  refine AnyL.take 5 (v := ?_) rfl (by kernel_rfl) (by kernel_rfl) (by kernel_rfl) (by kernel_rfl) (fun _ _ _ h => h) (by assumption) (Or.inl ⟨by rfl, ?_⟩) ?_
  rotate_left
  · (intro w' hSw; (try dsimp only at hSw); go_simp; try (with_reducible rfl))
  try simp only [Act.put, List.setIfInBounds_toArray, List.set_cons_zero, List.set_cons_succ]
  refine AnyL.take 6 (v := ?_) rfl (by kernel_rfl) (by kernel_rfl) (by kernel_rfl) (by kernel_rfl) (fun _ _ _ h => h) (by assumption) (Or.inl ⟨by rfl, ?_⟩) ?_
  rotate_left
  · (intro w' hSw; (try dsimp only at hSw); go_simp; try (with_reducible rfl))
  try simp only [Act.put, List.setIfInBounds_toArray, List.set_cons_zero, List.set_cons_succ]
  refine AnyL.take 7 (v := ?_) rfl (by kernel_rfl) (by kernel_rfl) (by kernel_rfl) (by kernel_rfl) (fun _ _ _ h => h) (by assumption) (Or.inl ⟨by rfl, ?_⟩) ?_
  rotate_left
  · (intro w' hSw; (try dsimp only at hSw); go_simp; try (with_reducible rfl))
  try simp only [Act.put, List.setIfInBounds_toArray, List.set_cons_zero, List.set_cons_succ]
  refine AnyL.one 8 (by kernel_rfl) rfl (fun K hK => ?_)
  go_simp
  refine hK _ _ (fun _ => hSw7) (fun hKq => ?_)
  clear hK K hKq
  try simp only [Act.put, List.setIfInBounds_toArray, List.set_cons_zero, List.set_cons_succ]
  refine AnyL.done (by kernel_rfl) ?_ _
  clear O6 K1 hS0 hSw6 hSw7 hbb HNW
  obtain ⟨XL, hXL⟩ : ∃ XL, XL = (fnA 483 X).toList := ⟨_, rfl⟩
  have eX : fnA 483 X = XL.toArray := by rw [hXL, fnA_toArray]
  have HeX := Lib.hid eX
  have HXi := Lib.hid (show (Tryz.prog.info? 51).map (·.size) = some XL.length by rw [hXL, fnA_list_length]; kernel_rfl)
  have HX483 := Lib.hid (show XL.length = 483 by rw [hXL, fnA_list_length])
  have hrX : w5.rangeAt M 0 XL := by rw [hXL]; exact HB5.out.range
  have HrX := Lib.hid hrX
  have HrX7 : Hid (w7.rangeAt M 0 XL) := Lib.hid (fun j v hj => O7.out.cell (hrX j v hj) (by simp))
  have Hnext := Lib.hid (wr_next HBg.out.ok HBg.out.T HBg.out.pv HBg.out.wr HBg.out.cell HBg.out.along (show [awM][0]? = some awM from rfl) Hok.out (by decide) (hdQ_is 1 26) (by decide) (by decide) (by decide) (by decide) (HX.out w7))
  rw [eX] at Hnext
  clear hrX eX hXL
  go_wp2_with (with_reducible refine wpList_load_mid rfl 51 _ rfl M 0 rfl XL _ HrX7.out Tryz.underlying51 rfl HXi.out ?_)
  refine Hnext.out.mono ?_
  rintro e w8 ⟨rfl, G2, q1, q2, q3⟩
  have O8 : Hid (Only [] w5 w8) := Lib.hid (O7.out.trans' q2 (fun i hi => .inr (hGn.out i hi)))
  have hGn2 : Hid (∀ i ∈ G2, w5.heap.size ≤ i) := Lib.hid (fun i hi => by
    rcases q3 i hi with h | h
    · exact hGn.out i h
    · have := O7.out.size; omega)
  have Hend := Lib.hid (HBg.out.ends w8 G2 q1)
  clear q1 q2 q3 Hnext HrX7
  go_wp2_with fail
  refine Hend.out.mono ?_
  rintro e w9 ⟨rfl, q1, q2⟩
  have O9 : Hid (Only [] w5 w9) := Lib.hid (O8.out.trans' q1 (fun i hi => .inr (hGn2.out i hi)))
  have HBy := Lib.hid q2
  have HrH9 : Hid (w9.rangeAt B1 0 HL) := Lib.hid (fun j v hj => O9.out.cell (HrH5.out j v hj) (by simp))
  have HrP9 : Hid (w9.rangeAt B2 0 PL) := Lib.hid (fun j v hj => O9.out.cell (HrP5.out j v hj) (by simp))
  have HA9 := Lib.hid (HA5.out.only O9.out (by simp))
  clear q1 q2 Hend O8
  go_wp2_with fail
  refine wp_region_L (by kernel_rfl) (fun w' => w'.rangeAt B1 0 HL ∧ w'.rangeAt B2 0 PL) 9 ?_
  have hS0 : (fun w' : World => w'.rangeAt B1 0 HL ∧ w'.rangeAt B2 0 PL) w9.drew := ⟨HrH9.out, HrP9.out⟩
  refine AnyL.take 0 (v := ?_) rfl (by kernel_rfl) (by kernel_rfl) (by kernel_rfl) (by kernel_rfl) (fun _ _ _ h => h) (by assumption) (Or.inl ⟨by rfl, ?_⟩) ?_
  rotate_left
  · (intro w' hSw; (try dsimp only at hSw); go_simp; try (with_reducible rfl))
  try simp only [Act.put, List.setIfInBounds_toArray, List.set_cons_zero, List.set_cons_succ]
  refine AnyL.take 2 rfl (by kernel_rfl) (by kernel_rfl) (by kernel_rfl) (by kernel_rfl) (fun _ _ _ h => h) (by assumption) (yieldsIf_load_mid (by rfl) _ _ rfl B1 0 rfl HL _ (fun w' h => h.1) Tryz.underlying26 rfl Hhi.out) ?_
  try simp only [Act.put, List.setIfInBounds_toArray, List.set_cons_zero, List.set_cons_succ]
  refine AnyL.take 3 rfl (by kernel_rfl) (by kernel_rfl) (by kernel_rfl) (by kernel_rfl) (fun _ _ _ h => h) (by assumption) (yieldsIf_load_mid (by rfl) _ _ rfl B2 0 rfl PL _ (fun w' h => h.2) Tryz.underlying28 rfl Hpl.out) ?_
  try simp only [Act.put, List.setIfInBounds_toArray, List.set_cons_zero, List.set_cons_succ]
  refine AnyL.one 1 (by kernel_rfl) rfl (fun K hK => ?_)
  go_simp
  refine (HBy.out _ (Only.refl [] w9).drew).mono ?_
  rintro e w10 ⟨rfl, o10⟩
  have hSw10 : (fun w' : World => w'.rangeAt B1 0 HL ∧ w'.rangeAt B2 0 PL) w10 := ⟨fun j v hj => o10.cell (hS0.1 j v hj) (by simp), fun j v hj => o10.cell (hS0.2 j v hj) (by simp)⟩
  have O10 : Hid (Only [] w9 w10) := Lib.hid ((Only.refl [] w9).drew.trans o10)
  refine hK _ _ (fun _ => hSw10) (fun hKq => ?_)
  clear hK K hKq o10
  try simp only [Act.put, List.setIfInBounds_toArray, List.set_cons_zero, List.set_cons_succ]
  refine AnyL.one 4 (by kernel_rfl) rfl (fun K hK => ?_)
  go_simp
  refine (HNR.out w10 (HA9.out.only O10.out (by simp))).mono ?_
  rintro e w11 ⟨rb, cr, sr, Gr, rfl, o11, hb11⟩
  have hSw11 : (fun w' : World => w'.rangeAt B1 0 HL ∧ w'.rangeAt B2 0 PL) w11 := ⟨fun j v hj => o11.cell (hSw10.1 j v hj) (by simp), fun j v hj => o11.cell (hSw10.2 j v hj) (by simp)⟩
  have O11 : Hid (Only [] w5 w11) := Lib.hid ((O9.out.trans O10.out).trans o11)
  have HR := Lib.hid hb11
  have HRn : Hid (∀ i ∈ Gr, w5.heap.size ≤ i) := Lib.hid (fun i hi => by have := hb11.new i hi; have := (O9.out.trans O10.out).size; omega)
  refine hK _ _ (fun _ => hSw11) (fun hKq => ?_)
  clear hK K hKq o11 hb11 O10 HA9 hS0 hSw10 HrH9 HrP9 HBy
  try simp only [Act.put, List.setIfInBounds_toArray, List.set_cons_zero, List.set_cons_succ]
  refine AnyL.take 5 (v := ?_) rfl (by kernel_rfl) (by kernel_rfl) (by kernel_rfl) (by kernel_rfl) (fun _ _ _ h => h) (by assumption) (Or.inl ⟨by rfl, ?_⟩) ?_
  rotate_left
  · (intro w' hSw; (try dsimp only at hSw); go_simp; try (with_reducible rfl))
  try simp only [Act.put, List.setIfInBounds_toArray, List.set_cons_zero, List.set_cons_succ]
  refine AnyL.take 6 (v := ?_) rfl (by kernel_rfl) (by kernel_rfl) (by kernel_rfl) (by kernel_rfl) (fun _ _ _ h => h) (by assumption) (Or.inl ⟨by rfl, ?_⟩) ?_
  rotate_left
  · (intro w' hSw; (try dsimp only at hSw); go_simp; try (with_reducible rfl))
  try simp only [Act.put, List.setIfInBounds_toArray, List.set_cons_zero, List.set_cons_succ]
  refine AnyL.take 7 (v := ?_) rfl (by kernel_rfl) (by kernel_rfl) (by kernel_rfl) (by kernel_rfl) (fun _ _ _ h => h) (by assumption) (Or.inl ⟨by rfl, ?_⟩) ?_
  rotate_left
  · (intro w' hSw; (try dsimp only at hSw); go_simp; try (with_reducible rfl))
  try simp only [Act.put, List.setIfInBounds_toArray, List.set_cons_zero, List.set_cons_succ]
  refine AnyL.take 8 (v := ?_) rfl (by kernel_rfl) (by kernel_rfl) (by kernel_rfl) (by kernel_rfl) (fun _ _ _ h => h) (by assumption) (Or.inl ⟨by rfl, ?_⟩) ?_
  rotate_left
  · (intro w' hSw; (try dsimp only at hSw); go_simp; try (with_reducible rfl))
  try simp only [Act.put, List.setIfInBounds_toArray, List.set_cons_zero, List.set_cons_succ]
  refine AnyL.one 9 (by kernel_rfl) rfl (fun K hK => ?_)
  go_simp
  refine hK _ _ (fun _ => hSw11) (fun hKq => ?_)
  clear hK K hKq
  try simp only [Act.put, List.setIfInBounds_toArray, List.set_cons_zero, List.set_cons_succ]
  refine AnyL.done (by kernel_rfl) ?_ _
  clear hSw11 HNR
  have Hrd := Lib.hid (rd_next HR.out.ok HR.out.T HR.out.pv HR.out.wr HR.out.cell HR.out.along (show [awM][0]? = some awM from rfl) Hok.out (by decide) (hdQ_is 1 26) (by decide) (by decide) (by decide) (by decide))
  go_wp2_with fail
  refine Hrd.out.mono ?_
  rintro e w12 ⟨Xf, G3, rfl, q1, q2, q3, q4⟩
  have O12 : Hid (Only [] w5 w12) := Lib.hid (O11.out.trans' q2 (fun i hi => .inr (HRn.out i hi)))
  have hGn3 : Hid (∀ i ∈ G3, w5.heap.size ≤ i) := Lib.hid (fun i hi => by
    rcases q3 i hi with h | h
    · exact HRn.out i h
    · have := O11.out.size; omega)
  obtain ⟨YL, hYL⟩ : ∃ YL, YL = (fnA 483 Xf).toList := ⟨_, rfl⟩
  have eY : fnA 483 Xf = YL.toArray := by rw [hYL, fnA_toArray]
  have hY1 := q4.one
  rw [eY] at hY1 ⊢
  have HY1 := Lib.hid hY1
  have HYi := Lib.hid (show (Tryz.prog.info? 51).map (·.size) = some YL.length by rw [hYL, fnA_list_length]; kernel_rfl)
  have HYj := Lib.hid (show (Tryz.prog.info? 51).map (·.size) = some YL.toArray.size by rw [List.size_toArray]; exact HYi.out)
  have HYz := Lib.hid ((show Tryz.zeroCells51.size = 483 by kernel_rfl).trans (show YL.toArray.size = 483 by rw [List.size_toArray, hYL, fnA_list_length]).symm)
  have Hsame : Hid (∀ wx, Calls Tryz.prog 20 #[.agg YL.toArray, .agg XL.toArray] wx fun e w' => e = .returned (.bool true) ∧ Only [] wx w') := Lib.hid (fun wx => by
    rw [← eY, ← HeX.out]
    obtain ⟨ao, len, cap, r1, r2, r3, -⟩ := (HX.out wx).pcm
    obtain ⟨rfl, rfl⟩ := r3 (show (1 : Int) ≠ 2 by decide)
    exact rf_same q4.cell (HX.out wx).cell (s := ByteArray.empty) (fun wy _ => by rw [q4.nil (show (1 : Int) ≠ 2 by decide)]; exact strOf_nil wy 0 0) (fun wy _ => by rw [r1]; exact strOf_nil wy _ _))
  have Hend2 := Lib.hid (fun w1 G1 => HR.out.ends w1 G1)
  have Hq1 := Lib.hid q1
  clear q1 q2 q3 q4 hY1 eY hYL Hrd
  go_wp2_with (refine wpList_store_agg rfl 51 _ _ rfl w12.heap.size YL.toArray rfl rfl (heap_alloc_at w12 _) HYj.out HYz.out HY1.out ?_)
  intro w13 hw13 ho13
  obtain ⟨YB, hYB⟩ : ∃ YB, YB = w12.heap.size := ⟨_, rfl⟩
  rw [← hYB] at hw13 ho13
  rw [← hYB]
  have O13 : Hid (Only [] w12 w13) := Lib.hid (((Only.refl [] w12).alloc _).trans' ho13 (fun i hi => .inr (by simp at hi; omega)))
  have HrY : Hid (w13.rangeAt YB 0 YL) := Lib.hid (fun j v hj => by rw [Nat.zero_add, cells_of hw13]; simpa using hj)
  have hYl := lt_of_block hw13
  have Hal13 := Lib.hid (Hq1.out.only HR.out.ok O13.out (by simp))
  have hYn : Hid (∀ i ∈ G3, i ≠ YB) := Lib.hid (fun i hi e => by have := Hq1.out.low HR.out.ok i hi; omega)
  have Hend3 := Lib.hid (Hend2.out w13 G3 Hal13.out)
  clear hw13 ho13 Hq1 Hal13 Hend2 HY1 HYj HYz hYB
  go_wp2_with fail
  refine Hend3.out.mono ?_
  rintro e w14 ⟨rfl, o14⟩
  have O14 : Hid (Only [] w5 w14) := Lib.hid ((O12.out.trans O13.out).trans' o14 (fun i hi => .inr (hGn3.out i hi)))
  have HrY14 : Hid (w14.rangeAt YB 0 YL) := Lib.hid (fun j v hj => o14.cell (HrY.out j v hj) (fun e => hYn.out _ e rfl))
  have HrH14 : Hid (w14.rangeAt B1 0 HL) := Lib.hid (fun j v hj => O14.out.cell (HrH5.out j v hj) (by simp))
  have HrP14 : Hid (w14.rangeAt B2 0 PL) := Lib.hid (fun j v hj => O14.out.cell (HrP5.out j v hj) (by simp))
  have HrX14 : Hid (w14.rangeAt M 0 XL) := Lib.hid (fun j v hj => O14.out.cell (HrX.out j v hj) (by simp))
  clear o14 Hend3 O13 O12 HrY
  go_wp2_with (with_reducible first
    | refine wpList_load_mid rfl 26 _ rfl B1 0 rfl HL _ HrH14.out Tryz.underlying26 rfl Hhi.out ?_
    | refine wpList_load_mid rfl 28 _ rfl B2 0 rfl PL _ HrP14.out Tryz.underlying28 rfl Hpl.out ?_)
  refine (sx_newWriterNil).mono ?_
  rintro e w15 ⟨rfl, o15⟩
  have O15 : Hid (Only [] w w15) := Lib.hid ((Ow5.out.trans O14.out).trans o15)
  have HrY15 : Hid (w15.rangeAt YB 0 YL) := Lib.hid (fun j v hj => o15.cell (HrY14.out j v hj) (by simp))
  have HrX15 : Hid (w15.rangeAt M 0 XL) := Lib.hid (fun j v hj => o15.cell (HrX14.out j v hj) (by simp))
  clear o15 O14 HrY14 HrX14 HrH14 HrP14
  go_wp2_with (refine held_at 55 rfl ?_)
  refine ⟨?_⟩
  iterate 3 (refine wpList_step (fun K hK => ?_); rw [if_pos (by rfl)]; go_simp; refine hK _ _ ?_; clear hK K)
  refine wpList_nil ?_
  iterate 2 go_step
  refine wp_seq ?_
  refine wp_region_lit ?_
  iterate 1 (refine wpList_step (fun K hK => ?_); rw [if_pos (by rfl)]; go_simp; refine hK _ _ ?_; clear hK K)
  (refine wpList_step (fun K hK => ?_); rw [if_pos (by rfl)]; go_simp; refine (lw_num _ _).mono ?_; rintro e9 w9 ⟨h9, h8⟩; subst h9; subst h8; dsimp only; refine hK _ _ ?_; clear hK K)
  iterate 3 (refine wpList_step (fun K hK => ?_); rw [if_pos (by rfl)]; go_simp; refine hK _ _ ?_; clear hK K)
  (refine wpList_step (fun K hK => ?_); rw [if_pos (by rfl)]; go_simp; refine (lw_num _ _).mono ?_; rintro e9 w9 ⟨h9, h8⟩; subst h9; subst h8; dsimp only; refine hK _ _ ?_; clear hK K)
  iterate 4 (refine wpList_step (fun K hK => ?_); rw [if_pos (by rfl)]; go_simp; refine hK _ _ ?_; clear hK K)
  (refine wpList_step (fun K hK => ?_); rw [if_pos (by rfl)]; go_simp; refine (lw_num _ _).mono ?_; rintro e9 w9 ⟨h9, h8⟩; subst h9; subst h8; dsimp only; refine hK _ _ ?_; clear hK K)
  iterate 4 (refine wpList_step (fun K hK => ?_); rw [if_pos (by rfl)]; go_simp; refine hK _ _ ?_; clear hK K)
  (refine wpList_step (fun K hK => ?_); rw [if_pos (by rfl)]; go_simp; refine (lw_num _ _).mono ?_; rintro e9 w9 ⟨h9, h8⟩; subst h9; subst h8; dsimp only; refine hK _ _ ?_; clear hK K)
  iterate 4 (refine wpList_step (fun K hK => ?_); rw [if_pos (by rfl)]; go_simp; refine hK _ _ ?_; clear hK K)
  (refine wpList_step (fun K hK => ?_); rw [if_pos (by rfl)]; go_simp; refine (lw_num _ _).mono ?_; rintro e9 w9 ⟨h9, h8⟩; subst h9; subst h8; dsimp only; refine hK _ _ ?_; clear hK K)
  iterate 3 (refine wpList_step (fun K hK => ?_); rw [if_pos (by rfl)]; go_simp; refine hK _ _ ?_; clear hK K)
  refine wpList_load_g (by rfl) 51 _ rfl YB 0 rfl YL _ HrY15.out Tryz.underlying51 rfl HYi.out ?_
  simp only [Act.put, List.setIfInBounds_toArray, List.set_cons_zero, List.set_cons_succ]
  refine wpList_load_g (by rfl) 51 _ rfl M 0 rfl XL _ HrX15.out Tryz.underlying51 rfl HXi.out ?_
  simp only [Act.put, List.setIfInBounds_toArray, List.set_cons_zero, List.set_cons_succ]
  refine wpList_step (fun K hK => ?_)
  rw [if_pos (by rfl)]
  go_simp
  refine (Hsame.out _).mono ?_
  rintro _ w16 ⟨rfl, o16⟩
  dsimp only
  refine hK _ _ ?_
  clear hK K
  have O16 := Lib.hid (O15.out.trans o16)
  clear o16
  iterate 3 (refine wpList_step (fun K hK => ?_); rw [if_pos (by rfl)]; go_simp; refine hK _ _ ?_; clear hK K)
  (refine wpList_step (fun K hK => ?_); rw [if_pos (by rfl)]; go_simp; refine (lw_num _ _).mono ?_; rintro e9 w9 ⟨h9, h8⟩; subst h9; subst h8; dsimp only; refine hK _ _ ?_; clear hK K)
  iterate 4 (refine wpList_step (fun K hK => ?_); rw [if_pos (by rfl)]; go_simp; refine hK _ _ ?_; clear hK K)
  (refine wpList_step (fun K hK => ?_); rw [if_pos (by rfl)]; go_simp; refine (lw_num _ _).mono ?_; rintro e9 w9 ⟨h9, h8⟩; subst h9; subst h8; dsimp only; refine hK _ _ ?_; clear hK K)
  iterate 3 (refine wpList_step (fun K hK => ?_); rw [if_pos (by rfl)]; go_simp; refine hK _ _ ?_; clear hK K)
  refine wpList_nil ?_
  go_wp2
  go_ret
  exact ⟨rfl, O16.out⟩
end Go.Proofs.YtcppbdlmcbjmeaaGreatDoor
