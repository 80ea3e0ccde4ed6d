/-
  More of my own small library: structs and arrays by value, whole; rows of ints by value. More of my own small library: an element of an array that is a value.
-/
import Derived.Test.YtcppbdlmcbjmeaaGreatDoorJ01
import Derived.Test.YtcppbdlmcbjmeaaGreatDoorJ02
import Derived.Deep.MidRow
import Derived.Laws.Rows
import Derived.Laws.Tables
import Derived.Laws.CopyRow
namespace Go.Proofs.YtcppbdlmcbjmeaaGreatDoor
open Go.RowKit

/-- A value of many cells is stored over a whole block. -/
theorem wpList_store_agg {P : Program} {ops : Array Oper} {rest : List Oper} {o : Oper} {a : Act} {w : World} {Q : Exit → Act → World → Prop} (hgd : o.guard = none) (ty : TypeId) (x y : Operand) (ho : o.op = .store ty x y)
    (g : Nat) (cells : Array Value) (hx : a.eval x = .pointer (some ⟨g, 0, none⟩)) (hy : a.eval y = .agg cells)
    {t : TypeId} {old : Array Value} (hg : w.heap[g]? = some (.cells old t (0, 0))) (hi : (P.info? ty).map (·.size) = some cells.size)
    (hold : old.size = cells.size) (h1 : cells.all (·.oneCell') = true)
    (h : ∀ w', w'.heap[g]? = some (.cells cells t (0, 0)) → Only [g] w w' → wpList P ops Q rest (a.put o.dst undef) w') : wpList P ops Q (o :: rest) a w :=
  wpList_store_row hgd ty x y ho g cells hx hy t old hg hi hold h1
    (h _ (setRow_heap w g old _ t _ hg) ⟨rfl, rfl, rfl, by simp [World.setRow], fun k _ hk => setRow_other w g k _ (by simpa using hk)⟩)
theorem ints_one (xs : List Int) : (ints xs).all (·.oneCell') = true := by
  rw [Array.all_eq_true_iff_forall_mem]
  intro v hv
  simp [ints] at hv
  obtain ⟨x, -, rfl⟩ := hv
  rfl
theorem set_getD (xs : List Int) (i : Nat) : xs.set i (xs.getD i 0) = xs := by
  apply List.ext_getElem?
  intro j
  rw [List.getElem?_set]
  by_cases h : i = j
  · subst h
    by_cases hi : i < xs.length
    · simp [hi, List.getD]
    · simp [hi]
  · simp [h]
/-- A value of many cells is what a function answers that lies in a block. -/
theorem ret_cell {P : Program} {fn : Func} {p : Tmp} {ty : TypeId} {post : Ending → World → Prop} {a : Act} {w : World} (h : fn.results = #[.cell p ty]) (g : Nat) {t : TypeId} {cs : Array Value} {d : TypeDesc}
    (hp : a.tmps.getD p undef = .pointer (some ⟨g, 0, none⟩)) (hg : w.heap[g]? = some (.cells cs t (0, 0)))
    (hu : P.underlying ty = some d) (hd : (match d with | .struct _ | .array _ _ => true | _ => false) = true) (hi : (P.info? ty).map (·.size) = some cs.size) (hdf : a.defers = [])
    (hq : post (.returned (.agg cs)) w) : bodyPost P fn post .ret a w :=
  bodyPost_ret (results_cell_row h a.tmps w g t cs (0, 0) d hp hg hu hd hi) hdf hq

/-- A value of many cells is stored over a part of a block. -/
def partOf (cur : Array Value) (o : Nat) (cells : Array Value) : Array Value := (cur.toList.take o ++ cells.toList ++ cur.toList.drop (o + cells.size)).toArray
theorem wpList_store_part {P : Program} {ops : Array Oper} {rest : List Oper} {op : Oper} {a : Act} {w : World} {Q : Exit → Act → World → Prop} (hgd : op.guard = none) (ty : TypeId) (x y : Operand) (ho : op.op = .store ty x y)
    (g o : Nat) (cells : Array Value) (hx : a.eval x = .pointer (some ⟨g, o, none⟩)) (hy : a.eval y = .agg cells)
    {t : TypeId} {cur : Array Value} (hg : w.heap[g]? = some (.cells cur t (0, 0))) (hi : (P.info? ty).map (·.size) = some cells.size)
    (hfit : o + cells.size ≤ cur.size) (h1 : cells.all (·.oneCell') = true)
    (h : ∀ w', w'.heap[g]? = some (.cells (partOf cur o cells) t (0, 0)) → Only [g] w w' → wpList P ops Q rest (a.put op.dst undef) w') : wpList P ops Q (op :: rest) a w := by
  have hst := run_storeCells_at (P := P) g o t cells.toList 0 cur w hg (by simpa using hfit) (fun v hv => (Array.all_eq_true_iff_forall_mem.1 h1) v (by simpa using hv))
  have hrun : (storeVar ty ⟨g, o, none⟩ (.agg cells)).run P w = .ok () (w.setRow g (partOf cur o cells)) := by
    cases hq : P.info? ty with
    | none => simp [hq] at hi
    | some i =>
      have hs : cells.size = i.size := by simp [hq] at hi; omega
      simp only [Nat.add_zero, Array.length_toList] at hst
      simp [storeVar, sizeOf, typeInfo, hq, Value.cells, hs, hst, partOf]
  refine wpList_plain hgd fun _ hK => ?_
  unfold Oper.wp execOp
  simp only [ho, hx, hy, Instr.storeAt, Instr.sureAddr, Sem.run_bind, Sem.run_pure, Result.andThen_ok, hrun]
  exact hK _ _ (h _ (setRow_heap w g cur _ t _ hg) ⟨rfl, rfl, rfl, by simp [World.setRow], fun k _ hk => setRow_other w g k _ (by simpa using hk)⟩)

/-- A table behind a sync.Once: its cells. -/
def onceCells (a b : Value) (rest : List Value) : Array Value := (a :: b :: .int .u32 0 :: rest).toArray
theorem onceCells_at (a b : Value) (rest : List Value) (i : Nat) : (onceCells a b rest)[3 + i]? = rest[i]? := by
  rw [Nat.add_comm]
  simp [onceCells]
theorem once_table (F : Nat) (caps : Array Value) (hent : ∀ w, (callFunc F caps).run Tryz.prog w = .ok (.enter F caps) w) (w : World) (tb : Nat) (T : TypeId) (rest0 rest1 : List Value)
    (hb : w.heap[tb]? = some (.cells (onceCells (.int .u32 0) (.int .i32 0) rest0) T (0, 0)))
    (hcl : ∀ w', w'.heap[tb]? = some (.cells (onceCells (.int .u32 0) (.int .i32 1) rest0) T (0, 0)) → Only [tb] w w' →
      Calls Tryz.prog F caps w' fun e w'' => e = .returned (.tuple #[]) ∧ w''.heap[tb]? = some (.cells (onceCells (.int .u32 0) (.int .i32 1) rest1) T (0, 0)) ∧ Only [tb] w' w'') :
    Calls Tryz.prog 98 #[.pointer (some ⟨tb, 0, none⟩), .func (.func F) #[] caps] w fun e w' => e = .returned (.tuple #[]) ∧ w'.heap[tb]? = some (.cells (onceCells (.int .u32 1) (.int .i32 0) rest1) T (0, 0)) ∧ Only [tb] w w' := by
  have h1 := heap_set_same (i := 1) (.int .i32 1) hb
  rw [show (onceCells (.int .u32 0) (.int .i32 0) rest0).setIfInBounds 1 (.int .i32 1) = onceCells (.int .u32 0) (.int .i32 1) rest0 by simp [onceCells]] at h1
  have o1 : Only [tb] w (w.setCell ⟨tb, 1, none⟩ (.int .i32 1)) := (Only.refl _ _).setCell (.inl (by simp)) _
  have hdo := once_do tb 0 F caps hent w (fun w1 => w1.heap[tb]? = some (.cells (onceCells (.int .u32 0) (.int .i32 1) rest1) T (0, 0)) ∧ Only [tb] w w1)
    (by rw [cells_of hb]; rfl) (by rw [cells_of hb]; rfl) (free_of hb _)
    ((hcl _ h1 o1).mono fun e w' ⟨he, g1, g2⟩ => ⟨he, ⟨by rw [cells_of g1]; rfl, by rw [cells_of g1]; rfl, free_of g1 _, free_of g1 _⟩, g1, o1.trans g2⟩)
  refine hdo.mono ?_
  rintro e w' ⟨rfl, w1, ⟨g1, g2⟩, rfl⟩
  refine ⟨rfl, ?_, ((g2.drew).setCell (p := ⟨tb, 0, none⟩) (.inl (by simp)) _).setCell (p := ⟨tb, 1, none⟩) (.inl (by simp)) _⟩
  have := heap_set_same (i := 1) (.int .i32 0) (heap_set_same (i := 0) (.int .u32 1) (w := w1.drew) g1)
  rw [show ((onceCells (.int .u32 0) (.int .i32 1) rest1).setIfInBounds 0 (.int .u32 1)).setIfInBounds 1 (.int .i32 0) = onceCells (.int .u32 1) (.int .i32 0) rest1 by simp [onceCells]] at this
  exact this
end Go.Proofs.YtcppbdlmcbjmeaaGreatDoor

namespace Go.Proofs.YtcppbdlmcbjmeaaGreatDoor
open Go.RowKit

theorem run_index_ints {P : Program} (t e : TypeId) (n : Nat) (xs : List Int) (k : Nat) (w : World) (h : P.underlying t = some (.array n e)) (he : P.underlying e = some (.int .i64)) (hi : (P.info? e).map (·.size) = some 1) (hn : xs.length = n) (hk : k < n) :
    (Instr.index t (.agg (ints xs)) (.int .i64 (k : Int))).run P w = .ok (.int .i64 (xs.getD k 0)) w := by
  cases hq : P.info? e with
  | none => simp [hq] at hi
  | some i =>
    have hs : i.size = 1 := by simpa [hq] using hi
    have h2 := ints_at xs k (by omega)
    have hk3 : ¬ n ≤ k := by omega
    simp [Instr.index, asIntOf, run_underlying h, sizeOf, typeInfo, hq, hs, hk3, part, isAgg, run_underlying he, h2]
    try omega
/-- Blocks of two types are two. -/
theorem block_ne {w : World} {a b : Nat} {c1 c2 : Array Value} {t1 t2 : TypeId} {f1 f2 : Nat × Nat} (h1 : w.heap[a]? = some (.cells c1 t1 f1)) (h2 : w.heap[b]? = some (.cells c2 t2 f2)) (ht : t1 ≠ t2) : a ≠ b := by
  rintro rfl
  rw [h1] at h2
  injection h2 with h2
  injection h2 with _ h2
  exact ht h2
/-- A value of many cells beside a plain one is what a function answers. -/
theorem ret_cell_tmp {P : Program} {fn : Func} {p q : Tmp} {ty : TypeId} {post : Ending → World → Prop} {a : Act} {w : World} (h : fn.results = #[.cell p ty, .tmp q]) (g : Nat) {t : TypeId} {cs : Array Value} {d : TypeDesc} (u : Value)
    (hp : a.tmps.getD p undef = .pointer (some ⟨g, 0, none⟩)) (hq : a.tmps.getD q undef = u) (hg : w.heap[g]? = some (.cells cs t (0, 0)))
    (hu : P.underlying ty = some d) (hd : (match d with | .struct _ | .array _ _ => true | _ => false) = true) (hi : (P.info? ty).map (·.size) = some cs.size) (hdf : a.defers = [])
    (hpost : post (.returned (.tuple #[.agg cs, u])) w) : bodyPost P fn post .ret a w := by
  have hp' : a.tmps[p]?.getD undef = .pointer (some ⟨g, 0, none⟩) := by simpa using hp
  have hq' : a.tmps[q]?.getD undef = u := by simpa using hq
  refine bodyPost_ret (v := .tuple #[.agg cs, u]) ?_ hdf hpost
  simp [results, h, hp', hq', asAddr, run_loadVar_row w g t ty cs (0, 0) d hg hu hd hi]
theorem heap3_0 (w : World) (A B C : Obj) : (((w.alloc A).alloc B).alloc C).heap[w.heap.size]? = some A := heap_alloc_lt _ (heap_alloc_lt _ (heap_alloc_at w A))
theorem heap3_1 (w : World) (A B C : Obj) : (((w.alloc A).alloc B).alloc C).heap[w.heap.size + 1]? = some B := by
  have h2 := heap_alloc_at (w.alloc A) B
  rw [World.size_alloc] at h2
  exact heap_alloc_lt _ h2
theorem heap3_2 (w : World) (A B C : Obj) : (((w.alloc A).alloc B).alloc C).heap[w.heap.size + 1 + 1]? = some C := by
  have h3 := heap_alloc_at ((w.alloc A).alloc B) C
  rw [World.size_alloc, World.size_alloc] at h3
  exact h3
theorem only3 (w : World) (A B C : Obj) : Only [] w (((w.alloc A).alloc B).alloc C) := (((Only.refl [] w).alloc _).alloc _).alloc _
end Go.Proofs.YtcppbdlmcbjmeaaGreatDoor
