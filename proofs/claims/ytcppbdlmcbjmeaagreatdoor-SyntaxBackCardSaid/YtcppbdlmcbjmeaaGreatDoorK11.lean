/- Lemmas that the law needs, part 11. -/
import Derived.Test.YtcppbdlmcbjmeaaGreatDoorK02
import Derived.Deep.MidRow
import Derived.Laws.Rows
import Derived.Laws.Tables
import Derived.Laws.CopyRow
namespace Go.Proofs.YtcppbdlmcbjmeaaGreatDoor
open Go.RowKit
theorem zY {P:Program} {ops:Array Oper} {rest:List Oper} {o:Oper} {a:Act} {w:World} {Q:Exit→Act→World→Prop} (hgd:o.guard=none) (ty:TypeId) (x y:Operand) (ho:o.op=.store ty x y)
 (g:Nat) (cells:Array Value) (hx:a.eval x=.pointer (some ⟨g,0,none⟩)) (hy:a.eval y=.agg cells)
 {t:TypeId} {old:Array Value} (hg:w.heap[g]? =some (.cells old t (0,0))) (hi:(P.info? ty).map (·.size)=some cells.size)
 (hold:old.size=cells.size) (h1:cells.all (·.oneCell')=true)
 (h:∀ w',w'.heap[g]? =some (.cells cells t (0,0))→Only [g] w w'→wpList P ops Q rest (a.put o.dst undef) w'):wpList P ops Q (o::rest) a w:=
 wpList_store_row hgd ty x y ho g cells hx hy t old hg hi hold h1
  (h _ (setRow_heap w g old _ t _ hg) ⟨rfl,rfl,rfl,by simp [World.setRow],fun k _ hk=>setRow_other w g k _ (by simpa using hk)⟩)
theorem ZU {P:Program} {fn:Func} {p:Tmp} {ty:TypeId} {post:Ending→World→Prop} {a:Act} {w:World} (h:fn.results=#[.cell p ty]) (g:Nat) {t:TypeId} {cs:Array Value} {d:TypeDesc}
 (hp:a.tmps.getD p undef=.pointer (some ⟨g,0,none⟩)) (hg:w.heap[g]? =some (.cells cs t (0,0)))
 (hu:P.underlying ty=some d) (hd:(match d with| .struct _| .array _ _=>true|_=>false)=true) (hi:(P.info? ty).map (·.size)=some cs.size) (hdf:a.defers=[])
 (hq:post (.returned (.agg cs)) w):bodyPost P fn post .ret a w:=
 bodyPost_ret (results_cell_row h a.tmps w g t cs (0,0) d hp hg hu hd hi) hdf hq
def zDO (cur:Array Value) (o:Nat) (cells:Array Value):Array Value:=(cur.toList.take o++cells.toList++cur.toList.drop (o+cells.size)).toArray
theorem zDZ {P:Program} {ops:Array Oper} {rest:List Oper} {op:Oper} {a:Act} {w:World} {Q:Exit→Act→World→Prop} (hgd:op.guard=none) (ty:TypeId) (x y:Operand) (ho:op.op=.store ty x y)
 (g o:Nat) (cells:Array Value) (hx:a.eval x=.pointer (some ⟨g,o,none⟩)) (hy:a.eval y=.agg cells)
 {t:TypeId} {cur:Array Value} (hg:w.heap[g]? =some (.cells cur t (0,0))) (hi:(P.info? ty).map (·.size)=some cells.size)
 (hfit:o+cells.size≤cur.size) (h1:cells.all (·.oneCell')=true)
 (h:∀ w',w'.heap[g]? =some (.cells (zDO cur o cells) t (0,0))→Only [g] w w'→wpList P ops Q rest (a.put op.dst undef) w'):wpList P ops Q (op::rest) a w:=by
 have hst:=run_storeCells_at (P:=P) g o t cells.toList 0 cur w hg (by simpa using hfit) (fun v hv=>(Array.all_eq_true_iff_forall_mem.1 h1) v (by simpa using hv));have hrun:(storeVar ty ⟨g,o,none⟩ (.agg cells)).run P w=.ok () (w.setRow g (zDO cur o cells)):=by
  cases hq:P.info? ty with
  |none=>simp [hq] at hi
  |some i=>
   have hs:cells.size=i.size:=by simp [hq] at hi;omega
   simp only [Nat.add_zero,Array.length_toList] at hst;simp [storeVar,sizeOf,typeInfo,hq,Value.cells,hs,hst,zDO]
 refine wpList_plain hgd fun _ hK=>?_
 unfold Oper.wp execOp;simp only [ho,hx,hy,Instr.storeAt,Instr.sureAddr,Sem.run_bind,Sem.run_pure,Result.andThen_ok,hrun];exact hK _ _ (h _ (setRow_heap w g cur _ t _ hg) ⟨rfl,rfl,rfl,by simp [World.setRow],fun k _ hk=>setRow_other w g k _ (by simpa using hk)⟩)
theorem Zp {P:Program} (t e:TypeId) (n:Nat) (xs:List Int) (k:Nat) (w:World) (h:P.underlying t=some (.array n e)) (he:P.underlying e=some (.int .i64)) (hi:(P.info? e).map (·.size)=some 1) (hn:xs.length=n) (hk:k<n):
 (Instr.index t (.agg (ints xs)) (.int .i64 (k:Int))).run P w=.ok (.int .i64 (xs.getD k 0)) w:=by
 cases hq:P.info? e with
 |none=>simp [hq] at hi
 |some i=>
  have hs:i.size=1:=by simpa [hq] using hi
  have h2:=zBh xs k (by omega);have hk3:¬ n≤k:=by omega
  simp [Instr.index,asIntOf,run_underlying h,sizeOf,typeInfo,hq,hs,hk3,part,isAgg,run_underlying he,h2]
  try omega
theorem zKO (w:World) (A B C:Obj):(((w.alloc A).alloc B).alloc C).heap[w.heap.size+1]? =some B:=by
 have h2:=ZA (w.alloc A) B;rw [World.size_alloc] at h2;exact ZE _ h2
theorem zKN (w:World) (A B C:Obj):(((w.alloc A).alloc B).alloc C).heap[w.heap.size+1+1]? =some C:=by
 have h3:=ZA ((w.alloc A).alloc B) C;rw [World.size_alloc,World.size_alloc] at h3;exact h3
end Go.Proofs.YtcppbdlmcbjmeaaGreatDoor
