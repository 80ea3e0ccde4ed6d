/-
  The walk over a state's keep: the macroblock under way stands ahead.
-/
import Derived.Test.YtcppbdlmcbjmeaaGreatDoorJ10
import Derived.Deep.AppendLies
namespace Go.Proofs.YtcppbdlmcbjmeaaGreatDoor
open Go.RowKit
set_option maxRecDepth 100000 in
theorem eltDn : Elt Tryz.prog 101 103 (.agg #[.int .i64 0, .int .i64 0, .int .i64 0, .int .i64 0, .int .i64 0, .int .i64 0, .int .i64 0, .int .i64 0, .int .i64 0, .int .i64 0, .int .i64 0, .int .i64 0, .int .i64 0, .int .i64 0, .int .i64 0, .int .i64 0, .int .i64 0, .int .i64 0, .int .i64 0, .int .i64 0, .int .i64 0, .int .i64 0, .int .i64 0, .int .i64 0, .int .i64 0, .int .i64 0, .int .i64 0, .int .i64 0, .int .i64 0, .int .i64 0, .int .i64 0, .int .i64 0, .int .i64 0, .int .i64 0, .int .i64 0, .int .i64 0, .int .i64 0, .int .i64 0, .int .i64 0, .int .i64 0, .int .i64 0, .int .i64 0, .int .i64 0, .int .i64 0, .int .i64 0, .int .i64 0]) 46 368 := ⟨Tryz.underlying101, by kernel_rfl, rfl, by decide⟩
theorem wp_build1 {P : Program} {w : World} {o : Oper} {a : Act} {K : Act → World → Prop} {Q : Exit → Act → World → Prop} (t : TypeId) (x : Operand) (ho : o.op = .buildSlice t 1 #[(0, x)]) {e : TypeId} {z : Value} {size bytes : Nat} (E : Elt P t e z size bytes) (v : Value) (hx : a.eval x = v) (cells : Array Value)
    (hsz : size ≤ 1000) (hfill : Instr.fill (fun i => some (i * size, size)) ((Array.range (1 * size)).map (z.cells[· % size]!)) [(0, v)] = some cells)
    (h : K (a.put o.dst (.slice (some ⟨w.heap.size, 0, none⟩) 1 1)) (w.alloc (.cells cells e))) : o.wp P a w K Q := by
  obtain ⟨i, hi, hz, hs, hbt⟩ := info_parts E.hi
  unfold Oper.wp execOp
  have hrun : (Instr.buildSlice t 1 #[(0, v)]).run P w = .ok (.slice (some ⟨w.heap.size, 0, none⟩) 1 1) (w.alloc (.cells cells e)) := by
    have hpos := E.pos
    have hzs := E.zs
    have hfill' : Instr.fill (fun i => some (i * size, size)) ((Array.range size).map (fun x => z.cells[x % z.cells.size]!)) [(0, v)] = some cells := by simpa [hzs] using hfill
    by_cases h24 : 16777216 < size
    · exact absurd h24 (by omega)
    simp [Instr.buildSlice, run_underlying E.ht, sizeOf, typeInfo, hi, hs, zeroValue, hz, h24, show ¬ size = 0 by omega]
    simp [hfill', newRow]
  simp only [ho, List.map_toArray, List.map_cons, List.map_nil, hx, Sem.run_bind, hrun, Result.andThen_ok]
  exact h
theorem block_type2 {w : World} {b c n : Nat} {cs : Array Value} {s t : TypeId} {X : Nat → Value} (h : w.heap[b]? = some (.cells cs s (0, 0))) (k : BlkIn w c n t X) (hst : s ≠ t) : b ≠ c := by
  rintro rfl
  unfold BlkIn at k
  rw [h] at k
  simp at k
  exact hst k.2
/-- Explicit lists of a function's values. -/
theorem list16 (f : Nat → Int) : (List.range 16).map (fun i => Value.int .i64 (f i)) = [.int .i64 (f 0), .int .i64 (f 1), .int .i64 (f 2), .int .i64 (f 3), .int .i64 (f 4), .int .i64 (f 5), .int .i64 (f 6), .int .i64 (f 7), .int .i64 (f 8), .int .i64 (f 9), .int .i64 (f 10), .int .i64 (f 11), .int .i64 (f 12), .int .i64 (f 13), .int .i64 (f 14), .int .i64 (f 15)] := rfl
theorem list28 (f : Nat → Int) : (List.range 28).map (fun i => Value.int .i64 (f i)) = [.int .i64 (f 0), .int .i64 (f 1), .int .i64 (f 2), .int .i64 (f 3), .int .i64 (f 4), .int .i64 (f 5), .int .i64 (f 6), .int .i64 (f 7), .int .i64 (f 8), .int .i64 (f 9), .int .i64 (f 10), .int .i64 (f 11), .int .i64 (f 12), .int .i64 (f 13), .int .i64 (f 14), .int .i64 (f 15), .int .i64 (f 16), .int .i64 (f 17), .int .i64 (f 18), .int .i64 (f 19), .int .i64 (f 20), .int .i64 (f 21), .int .i64 (f 22), .int .i64 (f 23), .int .i64 (f 24), .int .i64 (f 25), .int .i64 (f 26), .int .i64 (f 27)] := rfl
theorem range_of {w : World} {b n o len : Nat} {t : TypeId} {X : Nat → Value} (h : BlkIn w b n t X) (f : Nat → Int) (hX : ∀ i, i < len → X (o + i) = .int .i64 (f i)) (hn : o + len ≤ n) : w.rangeAt b o ((List.range len).map (fun i => Value.int .i64 (f i))) := by
  intro j v hj
  have hjl : j < len := by
    apply Classical.byContradiction
    intro e
    rw [List.getElem?_eq_none (by simp; omega)] at hj
    cases hj
  rw [h.cell (o + j) (by omega), hX j hjl]
  simpa [hjl] using hj

set_option maxRecDepth 100000 in
set_option maxHeartbeats 3200000 in
theorem st_keep {w : World} {sb mb n : Nat} {S X : Nat → Value} {D : List Value} {d : DoneP} (hs : BlkIn w sb 75 106 S) (hm : BlkIn w mb 483 51 X) (ha : w.ownsRow 0 103 46 (S 23) n D)
    (h0 : X 0 = .int .i64 d.kind) (h48 : X 48 = .int .i64 d.cbp) (hmd : ∀ i, i < 16 → X (2 + i) = .int .i64 (d.modes i)) (hpt : ∀ i, i < 28 → X (20 + i) = .int .i64 (d.parts i)) (hn : n ≤ 1000000) :
    Calls Tryz.prog 104 #[.pointer (some ⟨sb, 0, none⟩), .pointer (some ⟨mb, 0, none⟩)] w fun e w' => e = .returned (.tuple #[]) ∧ ∃ v', BlkIn w' sb 75 106 (upd S 23 v') ∧ w'.ownsRow 0 103 46 v' (n + 1) (D ++ d.cells) ∧ Only (sb :: (S 23).ownBlock.toList) w w' ∧ (∀ g, v'.ownBlock = some g → (S 23).ownBlock = some g ∨ w.heap.size ≤ g) := by
  obtain ⟨kd, hkd⟩ : ∃ kd, kd = d.kind := ⟨_, rfl⟩
  obtain ⟨cb, hcb⟩ : ∃ cb, cb = d.cbp := ⟨_, rfl⟩
  obtain ⟨md, hmdd⟩ : ∃ md, md = d.modes := ⟨_, rfl⟩
  obtain ⟨pt, hptd⟩ : ∃ pt, pt = d.parts := ⟨_, rfl⟩
  have hdc : d.cells = [.int .i64 kd, .int .i64 cb, .int .i64 (md 0), .int .i64 (md 1), .int .i64 (md 2), .int .i64 (md 3), .int .i64 (md 4), .int .i64 (md 5), .int .i64 (md 6), .int .i64 (md 7), .int .i64 (md 8), .int .i64 (md 9), .int .i64 (md 10), .int .i64 (md 11), .int .i64 (md 12), .int .i64 (md 13), .int .i64 (md 14), .int .i64 (md 15), .int .i64 (pt 0), .int .i64 (pt 1), .int .i64 (pt 2), .int .i64 (pt 3), .int .i64 (pt 4), .int .i64 (pt 5), .int .i64 (pt 6), .int .i64 (pt 7), .int .i64 (pt 8), .int .i64 (pt 9), .int .i64 (pt 10), .int .i64 (pt 11), .int .i64 (pt 12), .int .i64 (pt 13), .int .i64 (pt 14), .int .i64 (pt 15), .int .i64 (pt 16), .int .i64 (pt 17), .int .i64 (pt 18), .int .i64 (pt 19), .int .i64 (pt 20), .int .i64 (pt 21), .int .i64 (pt 22), .int .i64 (pt 23), .int .i64 (pt 24), .int .i64 (pt 25), .int .i64 (pt 26), .int .i64 (pt 27)] := by
    rw [hkd, hcb, hmdd, hptd]
    rfl
  rw [← hkd] at h0
  rw [← hcb] at h48
  rw [← hmdd] at hmd
  rw [← hptd] at hpt
  clear hkd hcb hmdd hptd
  have r2 := range_of hm md hmd (by decide)
  have r20 := range_of hm pt hpt (by decide)
  rw [list16] at r2
  rw [list28] at r20
  have c0 : w.cell? ⟨mb, 0, none⟩ = some (.int .i64 kd) := by rw [hm.cell 0 (by decide), h0]
  have c48 : w.cell? ⟨mb, 48, none⟩ = some (.int .i64 cb) := by rw [hm.cell 48 (by decide), h48]
  have c23 : w.cell? ⟨sb, 23, none⟩ = some (S 23) := hs.cell 23 (by decide)
  obtain ⟨v, hv⟩ : ∃ v, v = S 23 := ⟨_, rfl⟩
  rw [← hv] at c23 ha ⊢
  have HB := Lib.hid hs
  have HA := Lib.hid ha
  have Hdc := Lib.hid hdc
  have hne : ∀ g, v.ownBlock = some g → g ≠ sb ∧ g ≠ mb := fun g hg => by
    obtain ⟨cur, hcur⟩ := ownsRow_block ha hg
    exact ⟨block_type2 hcur hs (by decide), block_type2 hcur hm (by decide)⟩
  have Hne := Lib.hid hne
  have hsl := hs.lt
  obtain ⟨i2, hi2, hz2, hs2, hb2⟩ := info_parts eltDn.hi
  have Hi2 := Lib.hid hi2
  have Hz2 := Lib.hid hz2
  have Hs2 := Lib.hid hs2
  have Hb2 := Lib.hid hb2
  have Hu16 := Lib.hid Tryz.underlying39
  have Hu4 := Lib.hid Tryz.underlying46
  have Hi16 : Hid ((Tryz.prog.info? 39).map (·.size) = some 16) := Lib.hid (by kernel_rfl)
  have Hi4 : Hid ((Tryz.prog.info? 46).map (·.size) = some 28) := Lib.hid (by kernel_rfl)
  obtain ⟨CL, hCL⟩ : ∃ CL : List Value, CL = [.int .i64 kd, .int .i64 cb, .int .i64 (md 0), .int .i64 (md 1), .int .i64 (md 2), .int .i64 (md 3), .int .i64 (md 4), .int .i64 (md 5), .int .i64 (md 6), .int .i64 (md 7), .int .i64 (md 8), .int .i64 (md 9), .int .i64 (md 10), .int .i64 (md 11), .int .i64 (md 12), .int .i64 (md 13), .int .i64 (md 14), .int .i64 (md 15), .int .i64 (pt 0), .int .i64 (pt 1), .int .i64 (pt 2), .int .i64 (pt 3), .int .i64 (pt 4), .int .i64 (pt 5), .int .i64 (pt 6), .int .i64 (pt 7), .int .i64 (pt 8), .int .i64 (pt 9), .int .i64 (pt 10), .int .i64 (pt 11), .int .i64 (pt 12), .int .i64 (pt 13), .int .i64 (pt 14), .int .i64 (pt 15), .int .i64 (pt 16), .int .i64 (pt 17), .int .i64 (pt 18), .int .i64 (pt 19), .int .i64 (pt 20), .int .i64 (pt 21), .int .i64 (pt 22), .int .i64 (pt 23), .int .i64 (pt 24), .int .i64 (pt 25), .int .i64 (pt 26), .int .i64 (pt 27)] := ⟨_, rfl⟩
  have HF : Hid (Instr.fill (fun i => some (i * 46, 46)) ((Array.range (1 * 46)).map (fun x => ((.agg #[.int .i64 0, .int .i64 0, .int .i64 0, .int .i64 0, .int .i64 0, .int .i64 0, .int .i64 0, .int .i64 0, .int .i64 0, .int .i64 0, .int .i64 0, .int .i64 0, .int .i64 0, .int .i64 0, .int .i64 0, .int .i64 0, .int .i64 0, .int .i64 0, .int .i64 0, .int .i64 0, .int .i64 0, .int .i64 0, .int .i64 0, .int .i64 0, .int .i64 0, .int .i64 0, .int .i64 0, .int .i64 0, .int .i64 0, .int .i64 0, .int .i64 0, .int .i64 0, .int .i64 0, .int .i64 0, .int .i64 0, .int .i64 0, .int .i64 0, .int .i64 0, .int .i64 0, .int .i64 0, .int .i64 0, .int .i64 0, .int .i64 0, .int .i64 0, .int .i64 0, .int .i64 0]) : Value).cells[x % 46]!)) [(0, (.agg ([.int .i64 kd, .int .i64 cb, .int .i64 (md 0), .int .i64 (md 1), .int .i64 (md 2), .int .i64 (md 3), .int .i64 (md 4), .int .i64 (md 5), .int .i64 (md 6), .int .i64 (md 7), .int .i64 (md 8), .int .i64 (md 9), .int .i64 (md 10), .int .i64 (md 11), .int .i64 (md 12), .int .i64 (md 13), .int .i64 (md 14), .int .i64 (md 15), .int .i64 (pt 0), .int .i64 (pt 1), .int .i64 (pt 2), .int .i64 (pt 3), .int .i64 (pt 4), .int .i64 (pt 5), .int .i64 (pt 6), .int .i64 (pt 7), .int .i64 (pt 8), .int .i64 (pt 9), .int .i64 (pt 10), .int .i64 (pt 11), .int .i64 (pt 12), .int .i64 (pt 13), .int .i64 (pt 14), .int .i64 (pt 15), .int .i64 (pt 16), .int .i64 (pt 17), .int .i64 (pt 18), .int .i64 (pt 19), .int .i64 (pt 20), .int .i64 (pt 21), .int .i64 (pt 22), .int .i64 (pt 23), .int .i64 (pt 24), .int .i64 (pt 25), .int .i64 (pt 26), .int .i64 (pt 27)] : List Value).toArray : Value))] = some CL.toArray) := Lib.hid (by rw [hCL]; kernel_rfl)
  have H1c : Hid (∀ u ∈ CL, u.oneCell' = true) := Lib.hid (by rw [hCL]; simp [Value.oneCell'])
  have Hlen : Hid (CL.length = 1 * 46) := Lib.hid (by rw [hCL]; rfl)
  rw [← hCL] at hdc
  replace Hdc := Lib.hid hdc
  clear hs hm ha h0 h48 hmd hpt hdc hne hv hi2 hz2 hs2 hb2 hCL
  go_enter Tryz.func104, Tryz.ntmps104
  go_wp2_with fail
  refine wp_region_L (by kernel_rfl) (fun w' => w'.cell? ⟨mb, 0, none⟩ = some (.int .i64 kd) ∧ w'.cell? ⟨mb, 48, none⟩ = some (.int .i64 cb) ∧ w'.cell? ⟨sb, 23, none⟩ = some v ∧ w'.rangeAt mb 2 [.int .i64 (md 0), .int .i64 (md 1), .int .i64 (md 2), .int .i64 (md 3), .int .i64 (md 4), .int .i64 (md 5), .int .i64 (md 6), .int .i64 (md 7), .int .i64 (md 8), .int .i64 (md 9), .int .i64 (md 10), .int .i64 (md 11), .int .i64 (md 12), .int .i64 (md 13), .int .i64 (md 14), .int .i64 (md 15)] ∧ w'.rangeAt mb 20 [.int .i64 (pt 0), .int .i64 (pt 1), .int .i64 (pt 2), .int .i64 (pt 3), .int .i64 (pt 4), .int .i64 (pt 5), .int .i64 (pt 6), .int .i64 (pt 7), .int .i64 (pt 8), .int .i64 (pt 9), .int .i64 (pt 10), .int .i64 (pt 11), .int .i64 (pt 12), .int .i64 (pt 13), .int .i64 (pt 14), .int .i64 (pt 15), .int .i64 (pt 16), .int .i64 (pt 17), .int .i64 (pt 18), .int .i64 (pt 19), .int .i64 (pt 20), .int .i64 (pt 21), .int .i64 (pt 22), .int .i64 (pt 23), .int .i64 (pt 24), .int .i64 (pt 25), .int .i64 (pt 26), .int .i64 (pt 27)]) 26 ?_
  have hS0 : (fun w' => w'.cell? ⟨mb, 0, none⟩ = some (.int .i64 kd) ∧ w'.cell? ⟨mb, 48, none⟩ = some (.int .i64 cb) ∧ w'.cell? ⟨sb, 23, none⟩ = some v ∧ w'.rangeAt mb 2 [.int .i64 (md 0), .int .i64 (md 1), .int .i64 (md 2), .int .i64 (md 3), .int .i64 (md 4), .int .i64 (md 5), .int .i64 (md 6), .int .i64 (md 7), .int .i64 (md 8), .int .i64 (md 9), .int .i64 (md 10), .int .i64 (md 11), .int .i64 (md 12), .int .i64 (md 13), .int .i64 (md 14), .int .i64 (md 15)] ∧ w'.rangeAt mb 20 [.int .i64 (pt 0), .int .i64 (pt 1), .int .i64 (pt 2), .int .i64 (pt 3), .int .i64 (pt 4), .int .i64 (pt 5), .int .i64 (pt 6), .int .i64 (pt 7), .int .i64 (pt 8), .int .i64 (pt 9), .int .i64 (pt 10), .int .i64 (pt 11), .int .i64 (pt 12), .int .i64 (pt 13), .int .i64 (pt 14), .int .i64 (pt 15), .int .i64 (pt 16), .int .i64 (pt 17), .int .i64 (pt 18), .int .i64 (pt 19), .int .i64 (pt 20), .int .i64 (pt 21), .int .i64 (pt 22), .int .i64 (pt 23), .int .i64 (pt 24), .int .i64 (pt 25), .int .i64 (pt 26), .int .i64 (pt 27)]) w.drew := ⟨c0, c48, c23, r2, r20⟩
  have H1 : Hid (BlkIn w.drew sb 75 106 S) := Lib.hid (HB.out.drewN 1)
  have A1 : Hid (w.drew.ownsRow 0 103 46 v n D) := Lib.hid (ownsRow_of_block (w' := w.drew) HA.out (fun _ _ => rfl))
  have O1 : Hid (Only [] w w.drew) := Lib.hid (Only.refl [] w).drew
  have hsz : w.drew.heap.size = w.heap.size := rfl
  have hsb2 : sb < w.drew.heap.size := hsl
  generalize w.drew = wd at *
  refine AnyL.take 0 (v := ?_) rfl (by kernel_rfl) (by kernel_rfl) (by kernel_rfl) (by kernel_rfl) (fun _ _ _ h => h) (by assumption) (Or.inl ⟨by rfl, ?_⟩) ?_
  rotate_left
  · (intro w' hSw; (try dsimp only at hSw); go_simp; try (with_reducible rfl))
  try simp only [Act.put, List.setIfInBounds_toArray, List.set_cons_zero, List.set_cons_succ]
  refine AnyL.take 1 (v := ?_) rfl (by kernel_rfl) (by kernel_rfl) (by kernel_rfl) (by kernel_rfl) (fun _ _ _ h => h) (by assumption) (Or.inl ⟨by rfl, ?_⟩) ?_
  rotate_left
  · (intro w' hSw; (try dsimp only at hSw); go_simp; try (with_reducible rfl))
  try simp only [Act.put, List.setIfInBounds_toArray, List.set_cons_zero, List.set_cons_succ]
  refine AnyL.take 2 (v := ?_) rfl (by kernel_rfl) (by kernel_rfl) (by kernel_rfl) (by kernel_rfl) (fun _ _ _ h => h) (by assumption) (Or.inl ⟨by rfl, ?_⟩) ?_
  rotate_left
  · (intro w' hSw; (try dsimp only at hSw); go_simp; try (with_reducible rfl))
  try simp only [Act.put, List.setIfInBounds_toArray, List.set_cons_zero, List.set_cons_succ]
  refine AnyL.take 3 (v := ?_) rfl (by kernel_rfl) (by kernel_rfl) (by kernel_rfl) (by kernel_rfl) (fun _ _ _ h => h) (by assumption) (Or.inl ⟨by rfl, ?_⟩) ?_
  rotate_left
  · (intro w' hSw; (try dsimp only at hSw); go_simp; try (with_reducible rfl))
  try simp only [Act.put, List.setIfInBounds_toArray, List.set_cons_zero, List.set_cons_succ]
  refine AnyL.take 4 (v := ?_) rfl (by kernel_rfl) (by kernel_rfl) (by kernel_rfl) (by kernel_rfl) (fun _ _ _ h => h) (by assumption) (Or.inl ⟨by rfl, ?_⟩) ?_
  rotate_left
  · (intro w' hSw; (try dsimp only at hSw); go_simp; try (with_reducible rfl))
  try simp only [Act.put, List.setIfInBounds_toArray, List.set_cons_zero, List.set_cons_succ]
  refine AnyL.take 5 (v := ?_) rfl (by kernel_rfl) (by kernel_rfl) (by kernel_rfl) (by kernel_rfl) (fun _ _ _ h => h) (by assumption) (Or.inl ⟨by rfl, ?_⟩) ?_
  rotate_left
  · (intro w' hSw; (try dsimp only at hSw); go_simp; try (with_reducible rfl))
  try simp only [Act.put, List.setIfInBounds_toArray, List.set_cons_zero, List.set_cons_succ]
  refine AnyL.take 6 (v := ?_) rfl (by kernel_rfl) (by kernel_rfl) (by kernel_rfl) (by kernel_rfl) (fun _ _ _ h => h) (by assumption) (Or.inl ⟨by rfl, ?_⟩) ?_
  rotate_left
  · (intro w' hSw; (try dsimp only at hSw); go_simp; try (with_reducible rfl))
  try simp only [Act.put, List.setIfInBounds_toArray, List.set_cons_zero, List.set_cons_succ]
  refine AnyL.take 7 (v := ?_) rfl (by kernel_rfl) (by kernel_rfl) (by kernel_rfl) (by kernel_rfl) (fun _ _ _ h => h) (by assumption) (Or.inl ⟨by rfl, ?_⟩) ?_
  rotate_left
  · (intro w' hSw; (try dsimp only at hSw); go_simp; try (with_reducible rfl))
  try simp only [Act.put, List.setIfInBounds_toArray, List.set_cons_zero, List.set_cons_succ]
  refine AnyL.take 8 (v := ?_) rfl (by kernel_rfl) (by kernel_rfl) (by kernel_rfl) (by kernel_rfl) (fun _ _ _ h => h) (by assumption) (Or.inl ⟨by rfl, ?_⟩) ?_
  rotate_left
  · (intro w' hSw; (try dsimp only at hSw); go_simp; try (with_reducible rfl))
  try simp only [Act.put, List.setIfInBounds_toArray, List.set_cons_zero, List.set_cons_succ]
  refine AnyL.take 9 (v := ?_) rfl (by kernel_rfl) (by kernel_rfl) (by kernel_rfl) (by kernel_rfl) (fun _ _ _ h => h) (by assumption) (Or.inl ⟨by rfl, ?_⟩) ?_
  rotate_left
  · (intro w' hSw; (try dsimp only at hSw); go_simp; try (with_reducible rfl))
  try simp only [Act.put, List.setIfInBounds_toArray, List.set_cons_zero, List.set_cons_succ]
  refine AnyL.take 10 (v := ?_) rfl (by kernel_rfl) (by kernel_rfl) (by kernel_rfl) (by kernel_rfl) (fun _ _ _ h => h) (by assumption) (Or.inl ⟨by rfl, ?_⟩) ?_
  rotate_left
  · (intro w' hSw; (try dsimp only at hSw); go_simp; try (with_reducible rfl))
  try simp only [Act.put, List.setIfInBounds_toArray, List.set_cons_zero, List.set_cons_succ]
  refine AnyL.take 11 (v := ?_) rfl (by kernel_rfl) (by kernel_rfl) (by kernel_rfl) (by kernel_rfl) (fun _ _ _ h => h) (by assumption) (Or.inl ⟨by rfl, ?_⟩) ?_
  rotate_left
  · (intro w' hSw; (try dsimp only at hSw); go_simp; try (with_reducible rfl))
  try simp only [Act.put, List.setIfInBounds_toArray, List.set_cons_zero, List.set_cons_succ]
  refine AnyL.take 12 (v := ?_) rfl (by kernel_rfl) (by kernel_rfl) (by kernel_rfl) (by kernel_rfl) (fun _ _ _ h => h) (by assumption) (Or.inl ⟨by rfl, ?_⟩) ?_
  rotate_left
  · (intro w' hSw; (try dsimp only at hSw); go_simp; try (with_reducible rfl))
  try simp only [Act.put, List.setIfInBounds_toArray, List.set_cons_zero, List.set_cons_succ]
  refine AnyL.take 13 (v := ?_) rfl (by kernel_rfl) (by kernel_rfl) (by kernel_rfl) (by kernel_rfl) (fun _ _ _ h => h) (by assumption) (Or.inl ⟨by rfl, ?_⟩) ?_
  rotate_left
  · (intro w' hSw; (try dsimp only at hSw); go_simp; try (with_reducible rfl))
  try simp only [Act.put, List.setIfInBounds_toArray, List.set_cons_zero, List.set_cons_succ]
  refine AnyL.take 14 (v := ?_) rfl (by kernel_rfl) (by kernel_rfl) (by kernel_rfl) (by kernel_rfl) (fun _ _ _ h => h) (by assumption) (Or.inl ⟨by rfl, ?_⟩) ?_
  rotate_left
  · (intro w' hSw; (try dsimp only at hSw); go_simp; try (with_reducible rfl))
  try simp only [Act.put, List.setIfInBounds_toArray, List.set_cons_zero, List.set_cons_succ]
  refine AnyL.take 15 (v := ?_) rfl (by kernel_rfl) (by kernel_rfl) (by kernel_rfl) (by kernel_rfl) (fun _ _ _ h => h) (by assumption) (Or.inl ⟨by rfl, ?_⟩) ?_
  rotate_left
  · (intro w' hSw; (try dsimp only at hSw); go_simp; try (with_reducible rfl))
  try simp only [Act.put, List.setIfInBounds_toArray, List.set_cons_zero, List.set_cons_succ]
  refine AnyL.take 16 rfl (by kernel_rfl) (by kernel_rfl) (by kernel_rfl) (by kernel_rfl) (fun _ _ _ h => h) (by assumption) (yieldsIf_load_mid (by rfl) _ _ rfl mb 2 rfl [.int .i64 (md 0), .int .i64 (md 1), .int .i64 (md 2), .int .i64 (md 3), .int .i64 (md 4), .int .i64 (md 5), .int .i64 (md 6), .int .i64 (md 7), .int .i64 (md 8), .int .i64 (md 9), .int .i64 (md 10), .int .i64 (md 11), .int .i64 (md 12), .int .i64 (md 13), .int .i64 (md 14), .int .i64 (md 15)] _ (fun w' h => h.2.2.2.1) Hu16.out rfl Hi16.out) ?_
  try simp only [Act.put, List.setIfInBounds_toArray, List.set_cons_zero, List.set_cons_succ]
  refine AnyL.take 17 (v := ?_) rfl (by kernel_rfl) (by kernel_rfl) (by kernel_rfl) (by kernel_rfl) (fun _ _ _ h => h) (by assumption) (Or.inl ⟨by rfl, ?_⟩) ?_
  rotate_left
  · (intro w' hSw; (try dsimp only at hSw); go_simp; try (with_reducible rfl))
  try simp only [Act.put, List.setIfInBounds_toArray, List.set_cons_zero, List.set_cons_succ]
  refine AnyL.take 18 (v := ?_) rfl (by kernel_rfl) (by kernel_rfl) (by kernel_rfl) (by kernel_rfl) (fun _ _ _ h => h) (by assumption) (Or.inl ⟨by rfl, ?_⟩) ?_
  rotate_left
  · (intro w' hSw; (try dsimp only at hSw); go_simp; try (with_reducible rfl))
  try simp only [Act.put, List.setIfInBounds_toArray, List.set_cons_zero, List.set_cons_succ]
  refine AnyL.take 19 (v := ?_) rfl (by kernel_rfl) (by kernel_rfl) (by kernel_rfl) (by kernel_rfl) (fun _ _ _ h => h) (by assumption) (Or.inl ⟨by rfl, ?_⟩) ?_
  rotate_left
  · (intro w' hSw; (try dsimp only at hSw); go_simp; try (with_reducible rfl))
  try simp only [Act.put, List.setIfInBounds_toArray, List.set_cons_zero, List.set_cons_succ]
  refine AnyL.take 20 rfl (by kernel_rfl) (by kernel_rfl) (by kernel_rfl) (by kernel_rfl) (fun _ _ _ h => h) (by assumption) (yieldsIf_load_mid (by rfl) _ _ rfl mb 20 rfl [.int .i64 (pt 0), .int .i64 (pt 1), .int .i64 (pt 2), .int .i64 (pt 3), .int .i64 (pt 4), .int .i64 (pt 5), .int .i64 (pt 6), .int .i64 (pt 7), .int .i64 (pt 8), .int .i64 (pt 9), .int .i64 (pt 10), .int .i64 (pt 11), .int .i64 (pt 12), .int .i64 (pt 13), .int .i64 (pt 14), .int .i64 (pt 15), .int .i64 (pt 16), .int .i64 (pt 17), .int .i64 (pt 18), .int .i64 (pt 19), .int .i64 (pt 20), .int .i64 (pt 21), .int .i64 (pt 22), .int .i64 (pt 23), .int .i64 (pt 24), .int .i64 (pt 25), .int .i64 (pt 26), .int .i64 (pt 27)] _ (fun w' h => h.2.2.2.2) Hu4.out rfl Hi4.out) ?_
  try simp only [Act.put, List.setIfInBounds_toArray, List.set_cons_zero, List.set_cons_succ]
  refine AnyL.take 21 (v := ?_) rfl (by kernel_rfl) (by kernel_rfl) (by kernel_rfl) (by kernel_rfl) (fun _ _ _ h => h) (by assumption) (Or.inl ⟨by rfl, ?_⟩) ?_
  rotate_left
  · (intro w' hSw; (try dsimp only at hSw); go_simp; try (with_reducible rfl))
  try simp only [Act.put, List.setIfInBounds_toArray, List.set_cons_zero, List.set_cons_succ]
  refine AnyL.one 22 (by kernel_rfl) rfl (fun K hK => ?_)
  rw [if_pos (by rfl)]
  refine wp_build1 _ _ rfl eltDn (.agg ([.int .i64 kd, .int .i64 cb, .int .i64 (md 0), .int .i64 (md 1), .int .i64 (md 2), .int .i64 (md 3), .int .i64 (md 4), .int .i64 (md 5), .int .i64 (md 6), .int .i64 (md 7), .int .i64 (md 8), .int .i64 (md 9), .int .i64 (md 10), .int .i64 (md 11), .int .i64 (md 12), .int .i64 (md 13), .int .i64 (md 14), .int .i64 (md 15), .int .i64 (pt 0), .int .i64 (pt 1), .int .i64 (pt 2), .int .i64 (pt 3), .int .i64 (pt 4), .int .i64 (pt 5), .int .i64 (pt 6), .int .i64 (pt 7), .int .i64 (pt 8), .int .i64 (pt 9), .int .i64 (pt 10), .int .i64 (pt 11), .int .i64 (pt 12), .int .i64 (pt 13), .int .i64 (pt 14), .int .i64 (pt 15), .int .i64 (pt 16), .int .i64 (pt 17), .int .i64 (pt 18), .int .i64 (pt 19), .int .i64 (pt 20), .int .i64 (pt 21), .int .i64 (pt 22), .int .i64 (pt 23), .int .i64 (pt 24), .int .i64 (pt 25), .int .i64 (pt 26), .int .i64 (pt 27)] : List Value).toArray) ?hx CL.toArray (by decide) ?hf ?_
  case hx => rfl
  case hf => exact HF.out
  have A2 := Lib.hid (A1.out.alloc (.cells CL.toArray 103))
  have N2 := Lib.hid (heap_alloc_at wd (.cells CL.toArray 103))
  have O2 : Hid (Only [] wd (wd.alloc (.cells CL.toArray 103))) := Lib.hid ((Only.refl [] wd).alloc _)
  have hS1 : (fun w' => w'.cell? ⟨mb, 0, none⟩ = some (.int .i64 kd) ∧ w'.cell? ⟨mb, 48, none⟩ = some (.int .i64 cb) ∧ w'.cell? ⟨sb, 23, none⟩ = some v ∧ w'.rangeAt mb 2 [.int .i64 (md 0), .int .i64 (md 1), .int .i64 (md 2), .int .i64 (md 3), .int .i64 (md 4), .int .i64 (md 5), .int .i64 (md 6), .int .i64 (md 7), .int .i64 (md 8), .int .i64 (md 9), .int .i64 (md 10), .int .i64 (md 11), .int .i64 (md 12), .int .i64 (md 13), .int .i64 (md 14), .int .i64 (md 15)] ∧ w'.rangeAt mb 20 [.int .i64 (pt 0), .int .i64 (pt 1), .int .i64 (pt 2), .int .i64 (pt 3), .int .i64 (pt 4), .int .i64 (pt 5), .int .i64 (pt 6), .int .i64 (pt 7), .int .i64 (pt 8), .int .i64 (pt 9), .int .i64 (pt 10), .int .i64 (pt 11), .int .i64 (pt 12), .int .i64 (pt 13), .int .i64 (pt 14), .int .i64 (pt 15), .int .i64 (pt 16), .int .i64 (pt 17), .int .i64 (pt 18), .int .i64 (pt 19), .int .i64 (pt 20), .int .i64 (pt 21), .int .i64 (pt 22), .int .i64 (pt 23), .int .i64 (pt 24), .int .i64 (pt 25), .int .i64 (pt 26), .int .i64 (pt 27)]) (wd.alloc (.cells CL.toArray 103)) := by
    refine ⟨O2.out.cell hS0.1 (by simp), O2.out.cell hS0.2.1 (by simp), O2.out.cell hS0.2.2.1 (by simp), fun j u hj => O2.out.cell (hS0.2.2.2.1 j u hj) (by simp), fun j u hj => O2.out.cell (hS0.2.2.2.2 j u hj) (by simp)⟩
  have hz2 : (wd.alloc (.cells CL.toArray 103)).heap.size = wd.heap.size + 1 := by simp
  generalize wd.alloc (.cells CL.toArray 103) = we at *
  refine hK _ _ (fun _ => hS1) (fun hKq => ?_)
  clear hK K hKq
  try simp only [Act.put, List.setIfInBounds_toArray, List.set_cons_zero, List.set_cons_succ]
  refine AnyL.one 23 (by kernel_rfl) rfl (fun K hK => ?_)
  refine step_append_lies _ rfl _ _ _ rfl 0 103 i2 _ 46 368 Tryz.underlying101 Hi2.out Hz2.out Hs2.out Hb2.out rfl (by omega) v n _ rfl A2.out
    ⟨wd.heap.size, 0, none⟩ 1 1 CL rfl Hlen.out (World.news_of_block N2.out) H1c.out (by omega) (by unfold maxLen; omega) (by omega) (by omega) _ rfl ?_
  intro g cap wf hown hgrow hat hlt
  have OG := Lib.hid ((Only.refl v.ownBlock.toList we).grown hgrow (fun k hk => .inl (by simp [hk])))
  have A3 := Lib.hid hown
  have Hat := Lib.hid hat
  have hnm : sb ∉ v.ownBlock.toList := fun hi => (Hne.out sb (by simpa using hi)).1 rfl
  have hnb : mb ∉ v.ownBlock.toList := fun hi => (Hne.out mb (by simpa using hi)).2 rfl
  have hS2 : (fun w' => w'.cell? ⟨mb, 0, none⟩ = some (.int .i64 kd) ∧ w'.cell? ⟨mb, 48, none⟩ = some (.int .i64 cb) ∧ w'.cell? ⟨sb, 23, none⟩ = some v ∧ w'.rangeAt mb 2 [.int .i64 (md 0), .int .i64 (md 1), .int .i64 (md 2), .int .i64 (md 3), .int .i64 (md 4), .int .i64 (md 5), .int .i64 (md 6), .int .i64 (md 7), .int .i64 (md 8), .int .i64 (md 9), .int .i64 (md 10), .int .i64 (md 11), .int .i64 (md 12), .int .i64 (md 13), .int .i64 (md 14), .int .i64 (md 15)] ∧ w'.rangeAt mb 20 [.int .i64 (pt 0), .int .i64 (pt 1), .int .i64 (pt 2), .int .i64 (pt 3), .int .i64 (pt 4), .int .i64 (pt 5), .int .i64 (pt 6), .int .i64 (pt 7), .int .i64 (pt 8), .int .i64 (pt 9), .int .i64 (pt 10), .int .i64 (pt 11), .int .i64 (pt 12), .int .i64 (pt 13), .int .i64 (pt 14), .int .i64 (pt 15), .int .i64 (pt 16), .int .i64 (pt 17), .int .i64 (pt 18), .int .i64 (pt 19), .int .i64 (pt 20), .int .i64 (pt 21), .int .i64 (pt 22), .int .i64 (pt 23), .int .i64 (pt 24), .int .i64 (pt 25), .int .i64 (pt 26), .int .i64 (pt 27)]) wf := ⟨OG.out.cell hS1.1 hnb, OG.out.cell hS1.2.1 hnb, OG.out.cell hS1.2.2.1 hnm, fun j u hj => OG.out.cell (hS1.2.2.2.1 j u hj) hnb, fun j u hj => OG.out.cell (hS1.2.2.2.2 j u hj) hnb⟩
  have B3 := Lib.hid ((H1.out.only O2.out (by simp)).only OG.out hnm)
  have z23 := B3.out.free 23
  have c23f := hS2.2.2.1
  clear hown hgrow hat
  refine hK _ _ (fun _ => hS2) (fun hKq => ?_)
  clear hK K hKq
  try simp only [Act.put, List.setIfInBounds_toArray, List.set_cons_zero, List.set_cons_succ]
  refine AnyL.one 24 (by kernel_rfl) rfl (fun K hK => ?_)
  go_simp
  refine hK _ _ (fun _ => hS2) (fun hKq => ?_)
  clear hK K hKq
  try simp only [Act.put, List.setIfInBounds_toArray, List.set_cons_zero, List.set_cons_succ]
  refine AnyL.one 25 (by kernel_rfl) rfl (fun K hK => ?_)
  go_simp
  refine hK _ _ (fun _ => hS2) (fun hKq => ?_)
  clear hK K hKq
  try simp only [Act.put, List.setIfInBounds_toArray, List.set_cons_zero, List.set_cons_succ]
  refine AnyL.one 26 (by kernel_rfl) rfl (fun K hK => ?_)
  go_simp
  refine hK _ _ (fun h => absurd rfl h) (fun hKq => ?_)
  clear hK K hKq
  try simp only [Act.put, List.setIfInBounds_toArray, List.set_cons_zero, List.set_cons_succ]
  refine AnyL.done (by kernel_rfl) ?_ _
  go_end0
  have hgs : g ≠ sb := by
    rcases Hat.out with h | h
    · exact (Hne.out g h).1
    · omega
  refine ⟨rfl, _, B3.out.set 23 _, ?_, ?_, ?_⟩
  · rw [Hdc.out]
    refine ownsRow_of_block A3.out fun z hz => ?_
    have e : z = g := by simpa [Value.ownBlock] using hz.symm
    rw [e]
    exact Below.heap_setCell _ _ _ _ hgs
  · have o1 := O1.out.trans O2.out
    have o2 := (o1.mono (T := sb :: v.ownBlock.toList) (by simp)).trans (OG.out.mono (T := sb :: v.ownBlock.toList) (fun i hi => List.mem_cons_of_mem _ hi))
    exact o2.setCell (.inl (by simp)) _
  · intro z hz
    have e : z = g := by simpa [Value.ownBlock] using hz.symm
    rw [e]
    rcases Hat.out with h | h
    · exact .inl h
    · have := O1.out.size
      exact .inr (by omega)
end Go.Proofs.YtcppbdlmcbjmeaaGreatDoor
