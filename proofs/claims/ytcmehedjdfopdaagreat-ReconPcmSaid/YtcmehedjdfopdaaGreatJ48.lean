/-
  The walk over package edge's Line where the limits are 0: nothing changes.
-/
import Derived.Test.YtcmehedjdfopdaaGreatJ47
namespace Go.Proofs.YtcmehedjdfopdaaGreat
open Go Go.RowKit

/-- Two values of many cells are what a function answers. -/
theorem ret_cell_cell {P : Program} {fn : Func} {p q : Tmp} {ty uy : TypeId} {post : Ending → World → Prop} {a : Act} {w : World} (h : fn.results = #[.cell p ty, .cell q uy]) (g k : Nat) {t v : TypeId} {cs ds : Array Value} {d f : TypeDesc}
    (hp : a.tmps.getD p undef = .pointer (some ⟨g, 0, none⟩)) (hq : a.tmps.getD q undef = .pointer (some ⟨k, 0, none⟩)) (hg : w.heap[g]? = some (.cells cs t (0, 0))) (hk : w.heap[k]? = some (.cells ds v (0, 0)))
    (hu : P.underlying ty = some d) (hd : (match d with | .struct _ | .array _ _ => true | _ => false) = true) (hi : (P.info? ty).map (·.size) = some cs.size)
    (hu2 : P.underlying uy = some f) (hd2 : (match f with | .struct _ | .array _ _ => true | _ => false) = true) (hi2 : (P.info? uy).map (·.size) = some ds.size) (hdf : a.defers = [])
    (hpost : post (.returned (.tuple #[.agg cs, .agg ds])) w) : bodyPost P fn post .ret a w := by
  have hp' : a.tmps[p]?.getD undef = .pointer (some ⟨g, 0, none⟩) := by simpa using hp
  have hq' : a.tmps[q]?.getD undef = .pointer (some ⟨k, 0, none⟩) := by simpa using hq
  refine bodyPost_ret (v := .tuple #[.agg cs, .agg ds]) ?_ hdf hpost
  simp [results, h, hp', hq', asAddr, run_loadVar_row w g t ty cs (0, 0) d hg hu hd hi, run_loadVar_row w k v uy ds (0, 0) f hk hu2 hd2 hi2]
theorem ed_near0 (w : World) : Calls Tryz.prog 174 #[.int .i64 0] w fun e w' => e = .returned (.int .i64 0) ∧ w = w' := ed_near 0 w

set_option maxRecDepth 100000 in
set_option maxHeartbeats 3200000 in
theorem ed_line0 {w : World} {lb tb : Nat} {p0 p1 p2 p3 q0 q1 q2 q3 bs : Int} {ch : Value} (hl : w.cell? ⟨lb, 0, none⟩ = some (.pointer (some ⟨tb, 0, none⟩))) (ha : w.cell? ⟨tb, 3, none⟩ = some (.int .i64 0)) (hb : w.cell? ⟨tb, 55, none⟩ = some (.int .i64 0)) (hbs : 1 ≤ bs) (hp : 0 ≤ p0 ∧ p0 ≤ 255) (hq : 0 ≤ q0 ∧ q0 ≤ 255) :
    Calls Tryz.prog 133 #[.pointer (some ⟨lb, 0, none⟩), .agg #[.int .i64 p0, .int .i64 p1, .int .i64 p2, .int .i64 p3], .agg #[.int .i64 q0, .int .i64 q1, .int .i64 q2, .int .i64 q3], .int .i64 bs, .int .i64 0, .int .i64 0, .int .i64 0, ch] w fun e w' => e = .returned (.tuple #[.agg #[.int .i64 p0, .int .i64 p1, .int .i64 p2, .int .i64 p3], .agg #[.int .i64 q0, .int .i64 q1, .int .i64 q2, .int .i64 q3]]) ∧ Only [] w w' := by
  have hlb := World.block_lt_of_cell? w _ hl
  have htb := World.block_lt_of_cell? w _ ha
  simp only at hlb htb
  have hbb : ((bs : Int) == 0) = false := by simp; omega
  have qd : IntKind.i64.wrap (p0 - q0) = p0 - q0 := i64w _ (by omega) (by omega)
  obtain ⟨s, hs⟩ : ∃ s : Int, s = max (p0 - q0) (-(p0 - q0)) := ⟨_, rfl⟩
  have hsz : ∀ w, Calls Tryz.prog 175 #[.int .i64 (p0 - q0)] w fun e w' => e = .returned (.int .i64 s) ∧ w = w' := fun w => by
    rw [hs]
    exact ed_size _ (by omega) (by omega) w
  have hs0 : 0 ≤ s := by omega
  have hge : decide (s ≥ 0) = true := decide_eq_true hs0
  have Hsz := Lib.hid hsz
  have l0 : ((((w.alloc (.cells #[.int .i64 p0, .int .i64 p1, .int .i64 p2, .int .i64 p3] 218)).alloc (.cells #[.int .i64 q0, .int .i64 q1, .int .i64 q2, .int .i64 q3] 218)).alloc (.cells #[.int .i64 0, .int .i64 0, .int .i64 0, .int .i64 0] 218)).alloc (.cells #[.int .i64 0, .int .i64 0, .int .i64 0, .int .i64 0] 218)).cell? ⟨lb, 0, none⟩ = some (.pointer (some ⟨tb, 0, none⟩)) := cell_alloc (cell_alloc (cell_alloc (cell_alloc hl)))
  have a0 : ((((w.alloc (.cells #[.int .i64 p0, .int .i64 p1, .int .i64 p2, .int .i64 p3] 218)).alloc (.cells #[.int .i64 q0, .int .i64 q1, .int .i64 q2, .int .i64 q3] 218)).alloc (.cells #[.int .i64 0, .int .i64 0, .int .i64 0, .int .i64 0] 218)).alloc (.cells #[.int .i64 0, .int .i64 0, .int .i64 0, .int .i64 0] 218)).cell? ⟨tb, 3, none⟩ = some (.int .i64 0) := cell_alloc (cell_alloc (cell_alloc (cell_alloc ha)))
  have b0 : ((((w.alloc (.cells #[.int .i64 p0, .int .i64 p1, .int .i64 p2, .int .i64 p3] 218)).alloc (.cells #[.int .i64 q0, .int .i64 q1, .int .i64 q2, .int .i64 q3] 218)).alloc (.cells #[.int .i64 0, .int .i64 0, .int .i64 0, .int .i64 0] 218)).alloc (.cells #[.int .i64 0, .int .i64 0, .int .i64 0, .int .i64 0] 218)).cell? ⟨tb, 55, none⟩ = some (.int .i64 0) := cell_alloc (cell_alloc (cell_alloc (cell_alloc hb)))
  have x0 : ((((w.alloc (.cells #[.int .i64 p0, .int .i64 p1, .int .i64 p2, .int .i64 p3] 218)).alloc (.cells #[.int .i64 q0, .int .i64 q1, .int .i64 q2, .int .i64 q3] 218)).alloc (.cells #[.int .i64 0, .int .i64 0, .int .i64 0, .int .i64 0] 218)).alloc (.cells #[.int .i64 0, .int .i64 0, .int .i64 0, .int .i64 0] 218)).cell? ⟨w.heap.size, 0, none⟩ = some (.int .i64 p0) := cells_of (heap_alloc_lt _ (heap3_0 w _ _ _)) 0
  have y0 : ((((w.alloc (.cells #[.int .i64 p0, .int .i64 p1, .int .i64 p2, .int .i64 p3] 218)).alloc (.cells #[.int .i64 q0, .int .i64 q1, .int .i64 q2, .int .i64 q3] 218)).alloc (.cells #[.int .i64 0, .int .i64 0, .int .i64 0, .int .i64 0] 218)).alloc (.cells #[.int .i64 0, .int .i64 0, .int .i64 0, .int .i64 0] 218)).cell? ⟨w.heap.size + 1, 0, none⟩ = some (.int .i64 q0) := cells_of (heap_alloc_lt _ (heap3_1 w _ _ _)) 0
  have XR := Lib.hid (heap_alloc_lt (.cells #[.int .i64 0, .int .i64 0, .int .i64 0, .int .i64 0] 218) (heap3_0 w (.cells #[.int .i64 p0, .int .i64 p1, .int .i64 p2, .int .i64 p3] 218) (.cells #[.int .i64 q0, .int .i64 q1, .int .i64 q2, .int .i64 q3] 218) (.cells #[.int .i64 0, .int .i64 0, .int .i64 0, .int .i64 0] 218)))
  have YR := Lib.hid (heap_alloc_lt (.cells #[.int .i64 0, .int .i64 0, .int .i64 0, .int .i64 0] 218) (heap3_1 w (.cells #[.int .i64 p0, .int .i64 p1, .int .i64 p2, .int .i64 p3] 218) (.cells #[.int .i64 q0, .int .i64 q1, .int .i64 q2, .int .i64 q3] 218) (.cells #[.int .i64 0, .int .i64 0, .int .i64 0, .int .i64 0] 218)))
  have ZR := Lib.hid (heap_alloc_lt (.cells #[.int .i64 0, .int .i64 0, .int .i64 0, .int .i64 0] 218) (heap3_2 w (.cells #[.int .i64 p0, .int .i64 p1, .int .i64 p2, .int .i64 p3] 218) (.cells #[.int .i64 q0, .int .i64 q1, .int .i64 q2, .int .i64 q3] 218) (.cells #[.int .i64 0, .int .i64 0, .int .i64 0, .int .i64 0] 218)))
  have VR : Hid (((((w.alloc (.cells #[.int .i64 p0, .int .i64 p1, .int .i64 p2, .int .i64 p3] 218)).alloc (.cells #[.int .i64 q0, .int .i64 q1, .int .i64 q2, .int .i64 q3] 218)).alloc (.cells #[.int .i64 0, .int .i64 0, .int .i64 0, .int .i64 0] 218)).alloc (.cells #[.int .i64 0, .int .i64 0, .int .i64 0, .int .i64 0] 218)).heap[w.heap.size + 1 + 1 + 1]? = some (.cells #[.int .i64 0, .int .i64 0, .int .i64 0, .int .i64 0] 218)) := Lib.hid (by have := heap_alloc_at (((w.alloc (.cells #[.int .i64 p0, .int .i64 p1, .int .i64 p2, .int .i64 p3] 218)).alloc (.cells #[.int .i64 q0, .int .i64 q1, .int .i64 q2, .int .i64 q3] 218)).alloc (.cells #[.int .i64 0, .int .i64 0, .int .i64 0, .int .i64 0] 218)) (.cells #[.int .i64 0, .int .i64 0, .int .i64 0, .int .i64 0] 218); simpa using this)
  have OA : Hid (Only [] w ((((w.alloc (.cells #[.int .i64 p0, .int .i64 p1, .int .i64 p2, .int .i64 p3] 218)).alloc (.cells #[.int .i64 q0, .int .i64 q1, .int .i64 q2, .int .i64 q3] 218)).alloc (.cells #[.int .i64 0, .int .i64 0, .int .i64 0, .int .i64 0] 218)).alloc (.cells #[.int .i64 0, .int .i64 0, .int .i64 0, .int .i64 0] 218))) := Lib.hid (((((Only.refl [] w).alloc _).alloc _).alloc _).alloc _)
  clear hs hsz hl ha hb
  go_enter Tryz.func133, Tryz.ntmps133
  go_wp2_with fail
  generalize ((((w.alloc (.cells #[.int .i64 p0, .int .i64 p1, .int .i64 p2, .int .i64 p3] 218)).alloc (.cells #[.int .i64 q0, .int .i64 q1, .int .i64 q2, .int .i64 q3] 218)).alloc (.cells #[.int .i64 0, .int .i64 0, .int .i64 0, .int .i64 0] 218)).alloc (.cells #[.int .i64 0, .int .i64 0, .int .i64 0, .int .i64 0] 218)) = w1 at *
  go_quiet ((go_at_call 174; exact Calls.quiet_of_same ((ed_near0 _).mono fun _ _ ⟨h1, h2⟩ => ⟨h1, h2.symm⟩)))
  rename_i nq
  go_wp2_with fail
  refine (Hsz.out _).mono ?_
  rintro e w' ⟨rfl, rfl⟩
  have x2 : (w1.drewN nq).cell? ⟨w.heap.size, 0, none⟩ = some (.int .i64 p0) := x0
  go_wp2_with fail
  have X2 : Hid ((w1.drewN nq).heap[w.heap.size]? = some (.cells #[.int .i64 p0, .int .i64 p1, .int .i64 p2, .int .i64 p3] 218 (0, 0))) := XR
  have Y2 : Hid ((w1.drewN nq).heap[w.heap.size + 1]? = some (.cells #[.int .i64 q0, .int .i64 q1, .int .i64 q2, .int .i64 q3] 218 (0, 0))) := YR
  have Z2 : Hid ((w1.drewN nq).heap[w.heap.size + 1 + 1]? = some (.cells #[.int .i64 0, .int .i64 0, .int .i64 0, .int .i64 0] 218 (0, 0))) := ZR
  have V2 : Hid ((w1.drewN nq).heap[w.heap.size + 1 + 1 + 1]? = some (.cells #[.int .i64 0, .int .i64 0, .int .i64 0, .int .i64 0] 218 (0, 0))) := VR
  have O2 := Lib.hid (OA.out.drewN nq)
  clear x0 y0 l0 a0 b0 x2 XR YR ZR VR OA
  generalize w1.drewN nq = w2 at *
  have hu4 := Tryz.underlying218
  have hi4 : (Tryz.prog.info? 218).map (·.size) = some 4 := by kernel_rfl
  have r1 : w2.rangeAt w.heap.size 0 [.int .i64 p0, .int .i64 p1, .int .i64 p2, .int .i64 p3] := fun j v hj => by rw [Nat.zero_add, cells_of X2.out, ← hj, List.getElem?_toArray]
  have r2 : w2.rangeAt (w.heap.size + 1) 0 [.int .i64 q0, .int .i64 q1, .int .i64 q2, .int .i64 q3] := fun j v hj => by rw [Nat.zero_add, cells_of Y2.out, ← hj, List.getElem?_toArray]
  refine wp_region_L (by kernel_rfl) (fun w' => w'.rangeAt w.heap.size 0 [.int .i64 p0, .int .i64 p1, .int .i64 p2, .int .i64 p3] ∧ w'.rangeAt (w.heap.size + 1) 0 [.int .i64 q0, .int .i64 q1, .int .i64 q2, .int .i64 q3]) 3 ?_
  have hS0 : (fun w' => w'.rangeAt w.heap.size 0 [.int .i64 p0, .int .i64 p1, .int .i64 p2, .int .i64 p3] ∧ w'.rangeAt (w.heap.size + 1) 0 [.int .i64 q0, .int .i64 q1, .int .i64 q2, .int .i64 q3]) w2.drew := ⟨r1, r2⟩
  refine AnyL.take 0 rfl (by kernel_rfl) (by kernel_rfl) (by kernel_rfl) (by kernel_rfl) (fun _ _ _ h => h) (by assumption) (yieldsIf_load_mid (by rfl) _ _ rfl w.heap.size 0 rfl [.int .i64 p0, .int .i64 p1, .int .i64 p2, .int .i64 p3] _ (fun w' h => h.1) hu4 rfl hi4) ?_
  try simp only [Act.put, List.setIfInBounds_toArray, List.set_cons_zero, List.set_cons_succ]
  refine AnyL.take 1 rfl (by kernel_rfl) (by kernel_rfl) (by kernel_rfl) (by kernel_rfl) (fun _ _ _ h => h) (by assumption) (yieldsIf_load_mid (by rfl) _ _ rfl (w.heap.size + 1) 0 rfl [.int .i64 q0, .int .i64 q1, .int .i64 q2, .int .i64 q3] _ (fun w' h => h.2) hu4 rfl hi4) ?_
  try simp only [Act.put, List.setIfInBounds_toArray, List.set_cons_zero, List.set_cons_succ]
  refine AnyL.one 2 (by kernel_rfl) rfl (fun K hK => ?_)
  rw [if_pos (by rfl)]
  refine wp_store_row _ _ _ rfl (w.heap.size + 1 + 1) #[.int .i64 p0, .int .i64 p1, .int .i64 p2, .int .i64 p3] rfl rfl _ _ Z2.out hi4 rfl (by simp [Value.oneCell']) ?_
  have o3 : Only [w.heap.size + 1 + 1] w2 (w2.drew.setRow (w.heap.size + 1 + 1) #[.int .i64 p0, .int .i64 p1, .int .i64 p2, .int .i64 p3]) := ⟨rfl, rfl, rfl, by simp [World.setRow], fun k _ hk => setRow_other w2.drew _ k _ (by simpa using hk)⟩
  have z3 : (w2.drew.setRow (w.heap.size + 1 + 1) #[.int .i64 p0, .int .i64 p1, .int .i64 p2, .int .i64 p3]).heap[w.heap.size + 1 + 1]? = some (.cells #[.int .i64 p0, .int .i64 p1, .int .i64 p2, .int .i64 p3] 218 (0, 0)) := setRow_heap w2.drew _ _ _ _ _ Z2.out
  have v3 := o3.heap V2.out (by simp only [List.mem_singleton]; omega)
  refine hK _ _ (fun _ => ⟨range_only r1 o3 (by simp only [List.mem_singleton]; omega), range_only r2 o3 (by simp only [List.mem_singleton]; omega)⟩) (fun _ => ?_)
  clear hK K
  try simp only [Act.put]
  generalize w2.drew.setRow (w.heap.size + 1 + 1) #[.int .i64 p0, .int .i64 p1, .int .i64 p2, .int .i64 p3] = w3 at *
  refine AnyL.one 3 (by kernel_rfl) rfl (fun K hK => ?_)
  rw [if_pos (by rfl)]
  refine wp_store_row _ _ _ rfl (w.heap.size + 1 + 1 + 1) #[.int .i64 q0, .int .i64 q1, .int .i64 q2, .int .i64 q3] rfl rfl _ _ v3 hi4 rfl (by simp [Value.oneCell']) ?_
  have o4 : Only [w.heap.size + 1 + 1 + 1] w3 (w3.setRow (w.heap.size + 1 + 1 + 1) #[.int .i64 q0, .int .i64 q1, .int .i64 q2, .int .i64 q3]) := ⟨rfl, rfl, rfl, by simp [World.setRow], fun k _ hk => setRow_other w3 _ k _ (by simpa using hk)⟩
  have v4 : (w3.setRow (w.heap.size + 1 + 1 + 1) #[.int .i64 q0, .int .i64 q1, .int .i64 q2, .int .i64 q3]).heap[w.heap.size + 1 + 1 + 1]? = some (.cells #[.int .i64 q0, .int .i64 q1, .int .i64 q2, .int .i64 q3] 218 (0, 0)) := setRow_heap w3 _ _ _ _ _ v3
  have z4 := o4.heap z3 (by simp only [List.mem_singleton]; omega)
  have O4 := (O2.out.trans' o3 (fun i hi => .inr (by simp only [List.mem_singleton] at hi; omega))).trans' o4 (fun i hi => .inr (by simp only [List.mem_singleton] at hi; omega))
  refine hK _ _ (fun h => (h rfl).elim) (fun _ => ?_)
  clear hK K
  try simp only [Act.put]
  refine AnyL.done (by kernel_rfl) ?_ _
  have HZ := Lib.hid z4
  have HV := Lib.hid v4
  have HO := Lib.hid O4
  clear z4 v4 O4 o3 o4 z3 v3 r1 r2
  go_wp2_with fail
  exact ret_cell_cell rfl (w.heap.size + 1 + 1) (w.heap.size + 1 + 1 + 1) rfl rfl HZ.out HV.out hu4 rfl hi4 hu4 rfl hi4 rfl ⟨rfl, HO.out⟩
end Go.Proofs.YtcmehedjdfopdaaGreat
