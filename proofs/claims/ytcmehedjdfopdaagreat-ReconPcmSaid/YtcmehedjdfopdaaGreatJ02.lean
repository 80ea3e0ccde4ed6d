/-
  Plain Lean: planes of samples as lists; blocks that are laid down on them, sums that are added. No program is named. The program's slices of bytes and of ints, their elements. More of my own small library: structs and arrays by value, whole; rows of ints by value. More of my own small library: an element of an array that is a value.
-/
import Derived.Test.YtcmehedjdfopdaaGreatJ01
import Derived.Test.YtcmehedjdfopdaaGreatRows
import Derived.Deep.MidRow
import Derived.Laws.Rows
import Derived.Laws.Tables
import Derived.Laws.CopyRow
namespace Go.Proofs.YtcmehedjdfopdaaGreat

def u8s (xs : List Int) : Array Value := (xs.map (Value.int .u8)).toArray
theorem u8s_size (xs : List Int) : (u8s xs).size = xs.length := by simp [u8s]
theorem u8s_at (xs : List Int) (i : Nat) (h : i < xs.length) : (u8s xs)[i]? = some (.int .u8 (xs.getD i 0)) := by
  simp [u8s, h, List.getD]
theorem u8s_setIf (xs : List Int) (i : Nat) (v : Int) : (u8s xs).setIfInBounds i (.int .u8 v) = u8s (xs.set i v) := by
  unfold u8s
  rw [List.map_set]
  simp
theorem u8s_replicate (n : Nat) (v : Int) : zrow n (.int .u8 v) = u8s (List.replicate n v) := by simp [u8s, zrow]
/-- The place of a block's i-th sample in a plane. -/
def spot (pw x y w i : Nat) : Nat := (y + i / w) * pw + x + i % w
/-- A block that is laid down: its first k samples. -/
def putTo (pw x y w : Nat) (block pl : List Int) : Nat → List Int
  | 0 => pl
  | k + 1 => (putTo pw x y w block pl k).set (spot pw x y w k) (block.getD k 0)
theorem putTo_length (pw x y w : Nat) (block pl : List Int) (k : Nat) : (putTo pw x y w block pl k).length = pl.length := by
  induction k with
  | zero => rfl
  | succ k ih => simp [putTo, ih]
def clip8 (v : Int) : Int := min (max v 0) 255
/-- Sums that are added to a block of four by four. -/
def addTo (pw x y : Nat) (c pl : List Int) : Nat → List Int
  | 0 => pl
  | k + 1 => (addTo pw x y c pl k).set (spot pw x y 4 k) (clip8 ((addTo pw x y c pl k).getD (spot pw x y 4 k) 0 + c.getD k 0))
theorem addTo_length (pw x y : Nat) (c pl : List Int) (k : Nat) : (addTo pw x y c pl k).length = pl.length := by
  induction k with
  | zero => rfl
  | succ k ih => simp [addTo, ih]
theorem clip8_range (v : Int) : 0 ≤ clip8 v ∧ clip8 v ≤ 255 := by unfold clip8; omega
theorem clip8_id {v : Int} (h0 : 0 ≤ v) (h1 : v ≤ 255) : clip8 v = v := by unfold clip8; omega
/-- All samples of a plane lie within their limits. -/
def okPl (pl : List Int) : Prop := ∀ i, 0 ≤ pl.getD i 0 ∧ pl.getD i 0 ≤ 255
theorem getD_set' (xs : List Int) (c i : Nat) (v : Int) : (xs.set c v).getD i 0 = if c = i ∧ c < xs.length then v else xs.getD i 0 := by
  simp only [List.getD, List.getElem?_set]
  by_cases h : c = i
  · subst h
    by_cases h2 : c < xs.length <;> simp [h2]
  · simp [h]
theorem okPl_set {pl : List Int} (h : okPl pl) (i : Nat) (v : Int) (h0 : 0 ≤ v) (h1 : v ≤ 255) : okPl (pl.set i v) := by
  intro j
  rw [getD_set']
  split
  · exact ⟨h0, h1⟩
  · exact h j
theorem okPl_put {pl block : List Int} (h : okPl pl) (hb : okPl block) (pw x y w k : Nat) : okPl (putTo pw x y w block pl k) := by
  induction k with
  | zero => exact h
  | succ k ih => exact okPl_set ih _ _ (hb k).1 (hb k).2
theorem okPl_add {pl : List Int} (h : okPl pl) (c : List Int) (pw x y k : Nat) : okPl (addTo pw x y c pl k) := by
  induction k with
  | zero => exact h
  | succ k ih => exact okPl_set ih _ _ (clip8_range _).1 (clip8_range _).2
theorem okPl_replicate (n : Nat) (v : Int) (h0 : 0 ≤ v) (h1 : v ≤ 255) : okPl (List.replicate n v) := by
  intro i
  simp only [List.getD, List.getElem?_replicate]
  split <;> simp <;> omega
/-- A plane of two values. -/
def duo (a b : Int) (fl : List Bool) : List Int := fl.map fun q => if q then b else a
theorem duo_set (a b : Int) (fl : List Bool) (i : Nat) : (duo a b fl).set i b = duo a b (fl.set i true) := by
  unfold duo
  rw [List.map_set]
  rfl
def putFl (pw x y w : Nat) (fl : List Bool) : Nat → List Bool
  | 0 => fl
  | k + 1 => (putFl pw x y w fl k).set (spot pw x y w k) true
theorem putTo_duo (a b : Int) (pw x y w n : Nat) (fl : List Bool) : ∀ k, k ≤ n → putTo pw x y w (List.replicate n b) (duo a b fl) k = duo a b (putFl pw x y w fl k) := by
  intro k
  induction k with
  | zero => intro _; rfl
  | succ k ih =>
    intro hk
    rw [putTo, ih (by omega), putFl, ← duo_set]
    congr 1
    simp only [List.getD, List.getElem?_replicate, if_pos (show k < n by omega), Option.getD_some]
theorem duo_false (a b : Int) (n : Nat) : duo a b (List.replicate n false) = List.replicate n a := by simp [duo]
theorem duo_true (a b : Int) (n : Nat) : duo a b (List.replicate n true) = List.replicate n b := by simp [duo]
theorem duo_at (a b : Int) (fl : List Bool) (i : Nat) (h : i < fl.length) : (duo a b fl).getD i 0 = if fl.getD i false then b else a := by
  simp [duo, List.getD, h]
theorem duo_length (a b : Int) (fl : List Bool) : (duo a b fl).length = fl.length := by simp [duo]
end Go.Proofs.YtcmehedjdfopdaaGreat

namespace Go.Proofs.YtcmehedjdfopdaaGreat
open Go.RowKit

theorem elt64 : Elt Tryz.prog 58 3 (.int .i64 0) 1 8 := ⟨Tryz.underlying58, by kernel_rfl, rfl, by decide⟩
theorem elt8 : Elt Tryz.prog 46 5 (.int .u8 0) 1 1 := ⟨Tryz.underlying46, by kernel_rfl, rfl, by decide⟩
end Go.Proofs.YtcmehedjdfopdaaGreat

/-
  sync.Once, one goroutine: not done yet and its lock free: whatever function without results is handed in. Turned from the guide's worked walks over 'lazy'.
-/
namespace Go.Proofs.YtcmehedjdfopdaaGreat
open Go.RowKit

theorem disable (w : World) : (callFunc 196 #[]).run Tryz.prog w = .ok (.value (.tuple #[])) w := run_call_mark0 Tryz.func196 (by kernel_rfl) (by kernel_rfl) (by kernel_rfl) .disable (by kernel_rfl) w
theorem enable (w : World) : (callFunc 198 #[]).run Tryz.prog w = .ok (.value (.tuple #[])) w := run_call_mark0 Tryz.func198 (by kernel_rfl) (by kernel_rfl) (by kernel_rfl) .enable (by kernel_rfl) w
theorem acquire (a : Addr) (w : World) : (callFunc 199 #[.pointer (some a)]).run Tryz.prog w = .ok (.value (.tuple #[])) w := run_call_marked Tryz.func199 (by kernel_rfl) (by kernel_rfl) (by kernel_rfl) .acquire (by kernel_rfl) a w
theorem releaseMerge (a : Addr) (w : World) : (callFunc 201 #[.pointer (some a)]).run Tryz.prog w = .ok (.value (.tuple #[])) w := run_call_marked Tryz.func201 (by kernel_rfl) (by kernel_rfl) (by kernel_rfl) .releaseMerge (by kernel_rfl) a w

/-- '(*sync/atomic.Bool).Store(true)', deferred. -/
theorem store_deferred (a : Addr) (x : Value) (u : FrameMode) (w : World) (hc : w.cell? a = some x) (hz : w.frozen? a = false) :
    CallsD Tryz.prog 172 #[.pointer (some a), .bool true] u w fun e u' w' => u' = u ∧ (e = .returned (.tuple #[]) ∧ w' = w.drew.setCell a (.int .u32 1)) := by
  have hc' : w.drew.cell? a = some x := by go_simp
  have hz' : w.drew.frozen? a = false := by go_simp
  have hst := run_call_store (P := Tryz.prog) Tryz.func190 (by kernel_rfl) (by kernel_rfl) (by kernel_rfl) (by kernel_rfl) (k := .u32) (y := 1) hc' hz'
  go_enter_d Tryz.func172, Tryz.ntmps172
  go_wp2
  go_region_calls
  all_goals (go_end0; exact ⟨rfl, rfl⟩)

set_option maxRecDepth 100000 in
/-- '(*sync.Mutex).Unlock', deferred, the lock held and nobody waiting. -/
theorem unlock_deferred (a : Addr) (u : FrameMode) (w : World) (hc : w.cell? a = some (.int .i32 1)) (hz : w.frozen? a = false) :
    CallsD Tryz.prog 171 #[.pointer (some a)] u w fun e u' w' => u' = u ∧ (e = .returned (.tuple #[]) ∧ w' = w.setCell a (.int .i32 0)) := by
  have hd := disable
  have he := enable
  have hr := releaseMerge
  have hadd := run_call_add (P := Tryz.prog) Tryz.func202 (by kernel_rfl) (by kernel_rfl) (by kernel_rfl) .i32 (by kernel_rfl) (y := -1) (s := 0) hc hz (by simp [go_sem]; rfl)
  have hcv := run_convert_to_unsafe (P := Tryz.prog) (src := 276) (dst := 280) Tryz.underlying276 Tryz.underlying280 (by kernel_rfl) hc
  go_enter_d Tryz.func171, Tryz.ntmps171
  go_wp2
  go_end0
  go_wp2
  go_end0
  exact ⟨rfl, rfl⟩

set_option maxRecDepth 100000 in
/-- '(*sync.Mutex).Lock', the lock free. -/
theorem lock_free (a : Addr) (w : World) (hc : w.cell? a = some (.int .i32 0)) (hz : w.frozen? a = false) :
    Calls Tryz.prog 170 #[.pointer (some a)] w fun e w' => e = .returned (.tuple #[]) ∧ w' = w.setCell a (.int .i32 1) := by
  have hd := disable
  have he := enable
  have ha := acquire
  have hcas := run_call_cas_hit (P := Tryz.prog) Tryz.func197 (by kernel_rfl) (by kernel_rfl) (by kernel_rfl) .i32 (by kernel_rfl) (y := 1) hc hz
  have hc' : (w.setCell a (.int .i32 1)).cell? a = some (.int .i32 1) := World.cell?_setCell_same w a _ hc
  have hcv := run_convert_to_unsafe (P := Tryz.prog) (src := 276) (dst := 280) Tryz.underlying276 Tryz.underlying280 (by kernel_rfl) hc'
  go_enter Tryz.func170, Tryz.ntmps170
  go_wp2
  first | go_end0 | (simp only [Exit.inBlock, Exit.then]; refine bodyPost_ret (results_none rfl _ _ _) rfl ?_) | refine bodyPost_ret (results_none rfl _ _ _) rfl ?_
  go_wp2
  go_end0
  exact ⟨rfl, rfl⟩

/-- What the function that is handed in must keep: the Once's own cells. -/
def OnceKept (b off : Nat) (w : World) : Prop :=
  w.cell? ⟨b, off, none⟩ = some (.int .u32 0) ∧ w.cell? ⟨b, off + 1, none⟩ = some (.int .i32 1) ∧ w.frozen? ⟨b, off, none⟩ = false ∧ w.frozen? ⟨b, off + 1, none⟩ = false

set_option maxRecDepth 100000 in
set_option maxHeartbeats 1600000 in
theorem once_slow (b off F : Nat) (caps : Array Value) (hent : ∀ w, (callFunc F caps).run Tryz.prog w = .ok (.enter F caps) w) (w : World) (R : World → Prop)
    (h0 : w.cell? ⟨b, off, none⟩ = some (.int .u32 0)) (h1 : w.cell? ⟨b, off + 1, none⟩ = some (.int .i32 0))
    (f1 : w.frozen? ⟨b, off + 1, none⟩ = false)
    (hcl : Calls Tryz.prog F caps (w.setCell ⟨b, off + 1, none⟩ (.int .i32 1)) fun e w' => e = .returned (.tuple #[]) ∧ OnceKept b off w' ∧ R w') :
    Calls Tryz.prog 129 #[.pointer (some ⟨b, off, none⟩), .func (.func F) #[] caps] w fun e w' => e = .returned (.tuple #[]) ∧
      ∃ w1, R w1 ∧ w' = (w1.drew.setCell ⟨b, off, none⟩ (.int .u32 1)).setCell ⟨b, off + 1, none⟩ (.int .i32 0) := by
  have hl := run_call_load (P := Tryz.prog) Tryz.func169 (by kernel_rfl) (by kernel_rfl) (by kernel_rfl) .u32 (by kernel_rfl) (w := w.setCell ⟨b, off + 1, none⟩ (.int .i32 1)) (a := ⟨b, off, none⟩) (x := 0) ((World.cell?_setCell_other _ ⟨b, off + 1, none⟩ ⟨b, off, none⟩ _ (by simp)).trans h0)
  have hnot : ∀ (x : Bool) (w : World), (Op.unary .not (.bool x)).run Tryz.prog w = .ok (.bool (!x)) w := fun _ _ => rfl
  have Hcl := Lib.hid hcl
  clear hcl
  go_enter_defers Tryz.func129, Tryz.ntmps129
  go_wp2_with (go_at_call 170; refine (lock_free ⟨b, off + 1, none⟩ _ (by go_simp) (by go_simp)).mono ?_; rintro e w' ⟨rfl, rfl⟩)
  go_wp2_with (go_at_call 128; go_in)
  refine (Hcl.out).mono ?_
  rintro e w1 ⟨rfl, ⟨k0, k1, z0, z1⟩, hR⟩
  have HR := Lib.hid hR
  clear hR
  go_wp2
  refine leaves_cons (f := 172) (args := #[.pointer (some ⟨b, off, none⟩), .bool true]) (by simp) (by simp [go_sem]) ?_
  refine (store_deferred ⟨b, off, none⟩ (.int .u32 0) .returning _ k0 z0).mono ?_
  rintro e u' w'' ⟨rfl, rfl, rfl⟩
  refine leaves_cons (f := 171) (args := #[.pointer (some ⟨b, off + 1, none⟩)]) (by simp [settle]) (by simp [go_sem]) ?_
  refine (unlock_deferred ⟨b, off + 1, none⟩ _ _ ?_ (by simp [z1])).mono ?_
  · exact (World.cell?_setCell_other _ ⟨b, off, none⟩ ⟨b, off + 1, none⟩ _ (by simp)).trans (by rw [World.cell?_drew]; exact k1)
  rintro e u' w'' ⟨rfl, rfl, rfl⟩
  have hR := HR.out
  simp [Leaves, settle, results, Tryz.results129]
  exact ⟨_, hR, rfl⟩

set_option maxRecDepth 100000 in
set_option maxHeartbeats 1600000 in
theorem once_do (b off F : Nat) (caps : Array Value) (hent : ∀ w, (callFunc F caps).run Tryz.prog w = .ok (.enter F caps) w) (w : World) (R : World → Prop)
    (h0 : w.cell? ⟨b, off, none⟩ = some (.int .u32 0)) (h1 : w.cell? ⟨b, off + 1, none⟩ = some (.int .i32 0))
    (f1 : w.frozen? ⟨b, off + 1, none⟩ = false)
    (hcl : Calls Tryz.prog F caps (w.setCell ⟨b, off + 1, none⟩ (.int .i32 1)) fun e w' => e = .returned (.tuple #[]) ∧ OnceKept b off w' ∧ R w') :
    Calls Tryz.prog 90 #[.pointer (some ⟨b, off, none⟩), .func (.func F) #[] caps] w fun e w' => e = .returned (.tuple #[]) ∧
      ∃ w1, R w1 ∧ w' = (w1.drew.setCell ⟨b, off, none⟩ (.int .u32 1)).setCell ⟨b, off + 1, none⟩ (.int .i32 0) := by
  have hl := run_call_load (P := Tryz.prog) Tryz.func169 (by kernel_rfl) (by kernel_rfl) (by kernel_rfl) .u32 (by kernel_rfl) h0
  have hnot : ∀ (x : Bool) (w : World), (Op.unary .not (.bool x)).run Tryz.prog w = .ok (.bool (!x)) w := fun _ _ => rfl
  have hs := once_slow b off F caps hent w R h0 h1 f1 hcl
  have Hs := Lib.hid hs
  clear hs hcl
  go_enter Tryz.func90, Tryz.ntmps90
  go_wp2_with (go_at_call 128; go_in)
  refine (Hs.out).mono ?_
  rintro e w1 ⟨rfl, hR⟩
  have HR := Lib.hid hR
  clear hR
  go_wp2
  go_end0
  exact ⟨rfl, HR.out⟩
end Go.Proofs.YtcmehedjdfopdaaGreat

namespace Go.Proofs.YtcmehedjdfopdaaGreat
open Go.RowKit

/-- A value of many cells is stored over a whole block. -/
theorem wpList_store_agg {P : Program} {ops : Array Oper} {rest : List Oper} {o : Oper} {a : Act} {w : World} {Q : Exit → Act → World → Prop} (hgd : o.guard = none) (ty : TypeId) (x y : Operand) (ho : o.op = .store ty x y)
    (g : Nat) (cells : Array Value) (hx : a.eval x = .pointer (some ⟨g, 0, none⟩)) (hy : a.eval y = .agg cells)
    {t : TypeId} {old : Array Value} (hg : w.heap[g]? = some (.cells old t (0, 0))) (hi : (P.info? ty).map (·.size) = some cells.size)
    (hold : old.size = cells.size) (h1 : cells.all (·.oneCell') = true)
    (h : ∀ w', w'.heap[g]? = some (.cells cells t (0, 0)) → Only [g] w w' → wpList P ops Q rest (a.put o.dst undef) w') : wpList P ops Q (o :: rest) a w :=
  wpList_store_row hgd ty x y ho g cells hx hy t old hg hi hold h1
    (h _ (setRow_heap w g old _ t _ hg) ⟨rfl, rfl, rfl, by simp [World.setRow], fun k _ hk => setRow_other w g k _ (by simpa using hk)⟩)
theorem ints_one (xs : List Int) : (ints xs).all (·.oneCell') = true := by
  rw [Array.all_eq_true_iff_forall_mem]
  intro v hv
  simp [ints] at hv
  obtain ⟨x, -, rfl⟩ := hv
  rfl
theorem set_getD (xs : List Int) (i : Nat) : xs.set i (xs.getD i 0) = xs := by
  apply List.ext_getElem?
  intro j
  rw [List.getElem?_set]
  by_cases h : i = j
  · subst h
    by_cases hi : i < xs.length
    · simp [hi, List.getD]
    · simp [hi]
  · simp [h]
/-- A value of many cells is what a function answers that lies in a block. -/
theorem ret_cell {P : Program} {fn : Func} {p : Tmp} {ty : TypeId} {post : Ending → World → Prop} {a : Act} {w : World} (h : fn.results = #[.cell p ty]) (g : Nat) {t : TypeId} {cs : Array Value} {d : TypeDesc}
    (hp : a.tmps.getD p undef = .pointer (some ⟨g, 0, none⟩)) (hg : w.heap[g]? = some (.cells cs t (0, 0)))
    (hu : P.underlying ty = some d) (hd : (match d with | .struct _ | .array _ _ => true | _ => false) = true) (hi : (P.info? ty).map (·.size) = some cs.size) (hdf : a.defers = [])
    (hq : post (.returned (.agg cs)) w) : bodyPost P fn post .ret a w :=
  bodyPost_ret (results_cell_row h a.tmps w g t cs (0, 0) d hp hg hu hd hi) hdf hq

/-- A value of many cells is stored over a part of a block. -/
def partOf (cur : Array Value) (o : Nat) (cells : Array Value) : Array Value := (cur.toList.take o ++ cells.toList ++ cur.toList.drop (o + cells.size)).toArray
theorem wpList_store_part {P : Program} {ops : Array Oper} {rest : List Oper} {op : Oper} {a : Act} {w : World} {Q : Exit → Act → World → Prop} (hgd : op.guard = none) (ty : TypeId) (x y : Operand) (ho : op.op = .store ty x y)
    (g o : Nat) (cells : Array Value) (hx : a.eval x = .pointer (some ⟨g, o, none⟩)) (hy : a.eval y = .agg cells)
    {t : TypeId} {cur : Array Value} (hg : w.heap[g]? = some (.cells cur t (0, 0))) (hi : (P.info? ty).map (·.size) = some cells.size)
    (hfit : o + cells.size ≤ cur.size) (h1 : cells.all (·.oneCell') = true)
    (h : ∀ w', w'.heap[g]? = some (.cells (partOf cur o cells) t (0, 0)) → Only [g] w w' → wpList P ops Q rest (a.put op.dst undef) w') : wpList P ops Q (op :: rest) a w := by
  have hst := run_storeCells_at (P := P) g o t cells.toList 0 cur w hg (by simpa using hfit) (fun v hv => (Array.all_eq_true_iff_forall_mem.1 h1) v (by simpa using hv))
  have hrun : (storeVar ty ⟨g, o, none⟩ (.agg cells)).run P w = .ok () (w.setRow g (partOf cur o cells)) := by
    cases hq : P.info? ty with
    | none => simp [hq] at hi
    | some i =>
      have hs : cells.size = i.size := by simp [hq] at hi; omega
      simp only [Nat.add_zero, Array.length_toList] at hst
      simp [storeVar, sizeOf, typeInfo, hq, Value.cells, hs, hst, partOf]
  refine wpList_plain hgd fun _ hK => ?_
  unfold Oper.wp execOp
  simp only [ho, hx, hy, Instr.storeAt, Instr.sureAddr, Sem.run_bind, Sem.run_pure, Result.andThen_ok, hrun]
  exact hK _ _ (h _ (setRow_heap w g cur _ t _ hg) ⟨rfl, rfl, rfl, by simp [World.setRow], fun k _ hk => setRow_other w g k _ (by simpa using hk)⟩)

/-- A table behind a sync.Once: its cells. -/
def onceCells (a b : Value) (rest : List Value) : Array Value := (a :: b :: .int .u32 0 :: rest).toArray
theorem onceCells_at (a b : Value) (rest : List Value) (i : Nat) : (onceCells a b rest)[3 + i]? = rest[i]? := by
  rw [Nat.add_comm]
  simp [onceCells]
theorem once_table (F : Nat) (caps : Array Value) (hent : ∀ w, (callFunc F caps).run Tryz.prog w = .ok (.enter F caps) w) (w : World) (tb : Nat) (T : TypeId) (rest0 rest1 : List Value)
    (hb : w.heap[tb]? = some (.cells (onceCells (.int .u32 0) (.int .i32 0) rest0) T (0, 0)))
    (hcl : ∀ w', w'.heap[tb]? = some (.cells (onceCells (.int .u32 0) (.int .i32 1) rest0) T (0, 0)) → Only [tb] w w' →
      Calls Tryz.prog F caps w' fun e w'' => e = .returned (.tuple #[]) ∧ w''.heap[tb]? = some (.cells (onceCells (.int .u32 0) (.int .i32 1) rest1) T (0, 0)) ∧ Only [tb] w' w'') :
    Calls Tryz.prog 90 #[.pointer (some ⟨tb, 0, none⟩), .func (.func F) #[] caps] w fun e w' => e = .returned (.tuple #[]) ∧ w'.heap[tb]? = some (.cells (onceCells (.int .u32 1) (.int .i32 0) rest1) T (0, 0)) ∧ Only [tb] w w' := by
  have h1 := heap_set_same (i := 1) (.int .i32 1) hb
  rw [show (onceCells (.int .u32 0) (.int .i32 0) rest0).setIfInBounds 1 (.int .i32 1) = onceCells (.int .u32 0) (.int .i32 1) rest0 by simp [onceCells]] at h1
  have o1 : Only [tb] w (w.setCell ⟨tb, 1, none⟩ (.int .i32 1)) := (Only.refl _ _).setCell (.inl (by simp)) _
  have hdo := once_do tb 0 F caps hent w (fun w1 => w1.heap[tb]? = some (.cells (onceCells (.int .u32 0) (.int .i32 1) rest1) T (0, 0)) ∧ Only [tb] w w1)
    (by rw [cells_of hb]; rfl) (by rw [cells_of hb]; rfl) (free_of hb _)
    ((hcl _ h1 o1).mono fun e w' ⟨he, g1, g2⟩ => ⟨he, ⟨by rw [cells_of g1]; rfl, by rw [cells_of g1]; rfl, free_of g1 _, free_of g1 _⟩, g1, o1.trans g2⟩)
  refine hdo.mono ?_
  rintro e w' ⟨rfl, w1, ⟨g1, g2⟩, rfl⟩
  refine ⟨rfl, ?_, ((g2.drew).setCell (p := ⟨tb, 0, none⟩) (.inl (by simp)) _).setCell (p := ⟨tb, 1, none⟩) (.inl (by simp)) _⟩
  have := heap_set_same (i := 1) (.int .i32 0) (heap_set_same (i := 0) (.int .u32 1) (w := w1.drew) g1)
  rw [show ((onceCells (.int .u32 0) (.int .i32 1) rest1).setIfInBounds 0 (.int .u32 1)).setIfInBounds 1 (.int .i32 0) = onceCells (.int .u32 1) (.int .i32 0) rest1 by simp [onceCells]] at this
  exact this
end Go.Proofs.YtcmehedjdfopdaaGreat

namespace Go.Proofs.YtcmehedjdfopdaaGreat
open Go.RowKit

theorem run_index_ints {P : Program} (t e : TypeId) (n : Nat) (xs : List Int) (k : Nat) (w : World) (h : P.underlying t = some (.array n e)) (he : P.underlying e = some (.int .i64)) (hi : (P.info? e).map (·.size) = some 1) (hn : xs.length = n) (hk : k < n) :
    (Instr.index t (.agg (ints xs)) (.int .i64 (k : Int))).run P w = .ok (.int .i64 (xs.getD k 0)) w := by
  cases hq : P.info? e with
  | none => simp [hq] at hi
  | some i =>
    have hs : i.size = 1 := by simpa [hq] using hi
    have h2 := ints_at xs k (by omega)
    have hk3 : ¬ n ≤ k := by omega
    simp [Instr.index, asIntOf, run_underlying h, sizeOf, typeInfo, hq, hs, hk3, part, isAgg, run_underlying he, h2]
    try omega
/-- Blocks of two types are two. -/
theorem block_ne {w : World} {a b : Nat} {c1 c2 : Array Value} {t1 t2 : TypeId} {f1 f2 : Nat × Nat} (h1 : w.heap[a]? = some (.cells c1 t1 f1)) (h2 : w.heap[b]? = some (.cells c2 t2 f2)) (ht : t1 ≠ t2) : a ≠ b := by
  rintro rfl
  rw [h1] at h2
  injection h2 with h2
  injection h2 with _ h2
  exact ht h2
/-- A value of many cells beside a plain one is what a function answers. -/
theorem ret_cell_tmp {P : Program} {fn : Func} {p q : Tmp} {ty : TypeId} {post : Ending → World → Prop} {a : Act} {w : World} (h : fn.results = #[.cell p ty, .tmp q]) (g : Nat) {t : TypeId} {cs : Array Value} {d : TypeDesc} (u : Value)
    (hp : a.tmps.getD p undef = .pointer (some ⟨g, 0, none⟩)) (hq : a.tmps.getD q undef = u) (hg : w.heap[g]? = some (.cells cs t (0, 0)))
    (hu : P.underlying ty = some d) (hd : (match d with | .struct _ | .array _ _ => true | _ => false) = true) (hi : (P.info? ty).map (·.size) = some cs.size) (hdf : a.defers = [])
    (hpost : post (.returned (.tuple #[.agg cs, u])) w) : bodyPost P fn post .ret a w := by
  have hp' : a.tmps[p]?.getD undef = .pointer (some ⟨g, 0, none⟩) := by simpa using hp
  have hq' : a.tmps[q]?.getD undef = u := by simpa using hq
  refine bodyPost_ret (v := .tuple #[.agg cs, u]) ?_ hdf hpost
  simp [results, h, hp', hq', asAddr, run_loadVar_row w g t ty cs (0, 0) d hg hu hd hi]
theorem heap3_0 (w : World) (A B C : Obj) : (((w.alloc A).alloc B).alloc C).heap[w.heap.size]? = some A := heap_alloc_lt _ (heap_alloc_lt _ (heap_alloc_at w A))
theorem heap3_1 (w : World) (A B C : Obj) : (((w.alloc A).alloc B).alloc C).heap[w.heap.size + 1]? = some B := by
  have h2 := heap_alloc_at (w.alloc A) B
  rw [World.size_alloc] at h2
  exact heap_alloc_lt _ h2
theorem heap3_2 (w : World) (A B C : Obj) : (((w.alloc A).alloc B).alloc C).heap[w.heap.size + 1 + 1]? = some C := by
  have h3 := heap_alloc_at ((w.alloc A).alloc B) C
  rw [World.size_alloc, World.size_alloc] at h3
  exact h3
theorem only3 (w : World) (A B C : Obj) : Only [] w (((w.alloc A).alloc B).alloc C) := (((Only.refl [] w).alloc _).alloc _).alloc _
end Go.Proofs.YtcmehedjdfopdaaGreat
