/- Lemmas that the law needs, part 45. -/
import Derived.Test.YtcppbdlmcbjmeaaGreatDoorK07
import Derived.Test.YtcppbdlmcbjmeaaGreatDoorK44
set_option maxRecDepth 20000
namespace Go.Proofs.YtcppbdlmcbjmeaaGreatDoor
open Go.ChangeShapes Go.WideShapes Go.ChangeAt Go.RowKit
theorem list_pick {α:Type} (d:α) (Q:Nat→α→Prop):∀ n,(∀ i,i<n→∃ y,Q i y)→∃ ys:List α,ys.length=n∧∀ i,i<n→Q i (ys.getD i d):=by
 intro n
 induction n with
 |zero=>intro _;exact ⟨[],rfl,fun i hi=>by omega⟩
 |succ n ih=>
  intro h;obtain ⟨ys,hl,hq⟩:=ih (fun i hi=>h i (by omega));obtain ⟨y,hy⟩:=h n (by omega);refine ⟨ys++[y],by simp [hl],fun i hi=>?_⟩
  by_cases hin:i<n
  ·have h1:(ys++[y]).getD i d=ys.getD i d:=by
    simp only [List.getD,List.getElem?_append_left (show i<ys.length by omega)]
   rw [h1];exact hq i hin
  ·obtain rfl:i=n:=by omega
   have h1:(ys++[y]).getD i d=y:=by
    simp only [List.getD,List.getElem?_append_right (show ys.length≤i by omega),hl,Nat.sub_self]
    rfl
   rw [h1];exact hy
theorem addr_add (a:Addr) (i j:Nat):(a.add i).add j=a.add (i+j):=by
 obtain ⟨b,o,s⟩:=a
 by_cases k1:i=0
 ·rw [k1,Nat.zero_add];rfl
 ·by_cases k2:j=0
  ·subst k2;rw [Nat.add_zero];simp [Addr.add,k1]
  ·simp [Addr.add,k1,k2,Nat.add_assoc]
def leafAt (P:Program):Nat→TypeId→Nat→Option TypeId
 |0,_,_=>none
 |n+1,t,j=>match P.underlying t with
  |some (.struct fs)=>fs.toList.findSome? fun f=>if f.offset≤j∧j<f.offset+P.cellsOf f.type then leafAt P n f.type (j-f.offset) else none
  |some (.array m e)=>if j/P.cellsOf e<m then leafAt P n e (j%P.cellsOf e) else none
  |some (.int _)=>if j=0 then some t else none
  |some .bool=>if j=0 then some t else none
  |some (.slice _)=>if j=0 then some t else none
  |_=>none
theorem take_at {cs:List Value} {o k j:Nat} {c:Value} (h:((cs.drop o).take k)[j]? =some c):cs[o+j]? =some c:=by
 rw [List.getElem?_take] at h
 split at h
 ·rwa [List.getElem?_drop] at h
 ·cases h
section
variable {H:Type} {enc:TypeId×Value→H} {P:Program} {w:World}
theorem leaf:∀ n t j fuel cs x t',leafAt P n t j=some t'→DataW.trod enc P w 0 (fun _=>true) true fuel t cs=some x→∃ c m y,cs[j]? =some c∧DataW.trod enc P w 0 (fun _=>true) true m t' [c]=some y:=by
 intro n
 induction n with
 |zero=>intro t j fuel cs x t' h;cases h
 |succ n ih=>
  intro t j fuel cs x t' h hx;unfold leafAt at h
  split at h
  ·rename_i fs hu;obtain ⟨f,hf,hf2⟩:=List.exists_of_findSome?_eq_some h
   split at hf2
   ·rename_i hj;obtain ⟨i,hi,rfl⟩:=List.getElem_of_mem hf;obtain ⟨ys,m,rfl,-,-,hl,hy⟩:=DataW.trod_struct hu hx;have hi':i<fs.size:=by simpa using hi
    have h1:=hy i fs[i] (by simp [hi']);rw [List.getElem?_eq_getElem (show i<ys.length by omega)] at h1;rw [Array.getElem_toList] at hf2 hj;obtain ⟨c,m',y,hc,ht⟩:=ih _ _ _ _ _ _ hf2 h1;have h2:=take_at hc;rw [show fs[i].offset+(j-fs[i].offset)=j by omega] at h2;exact ⟨c,m',y,h2,ht⟩
   ·cases hf2
  ·rename_i k e hu
   split at h
   ·rename_i hj;obtain ⟨ys,m,rfl,-,-,hl,hy⟩:=DataW.trod_array hu hx;have h1:=hy _ hj;rw [List.getElem?_eq_getElem (show j/P.cellsOf e<ys.length by omega)] at h1;obtain ⟨c,m',y,hc,ht⟩:=ih _ _ _ _ _ _ h h1;have h2:=take_at hc;rw [Nat.mul_comm,Nat.div_add_mod] at h2;exact ⟨c,m',y,h2,ht⟩
   ·cases h
  ·rename_i hu
   split at h
   ·rename_i h0
    cases h;subst h0
    obtain ⟨z,rfl,-,-⟩:=DataW.trod_int hu hx;exact ⟨_,_,_,rfl,hx⟩
   ·cases h
  ·rename_i hu
   split at h
   ·rename_i h0
    cases h;subst h0
    obtain ⟨z,rfl,-⟩:=DataW.trod_bool hu hx;exact ⟨_,_,_,rfl,hx⟩
   ·cases h
  ·rename_i hu
   split at h
   ·rename_i h0
    cases h;subst h0
    rcases DataW.trod_slice hu hx with ⟨rfl,-⟩|⟨_,_,_,_,_,_,-,rfl,-⟩
    ·exact ⟨_,_,_,rfl,hx⟩
    ·exact ⟨_,_,_,rfl,hx⟩
   ·cases h
  ·cases h
def intAt (P:Program) (t:TypeId) (j:Nat):Bool:=match leafAt P 8 t j with
 |some u=>match P.underlying u with
  |some (.int .i64)=>true
  |_=>false
 |none=>false
def boolAt (P:Program) (t:TypeId) (j:Nat):Bool:=match leafAt P 8 t j with
 |some u=>match P.underlying u with
  |some .bool=>true
  |_=>false
 |none=>false
theorem int_at {t:TypeId} {j fuel:Nat} {cs:List Value} {x:DataW H×List MemPlace} (h:intAt P t j=true) (hx:DataW.trod enc P w 0 (fun _=>true) true fuel t cs=some x):∃ z,cs[j]? =some (.int .i64 z):=by
 unfold intAt at h
 split at h
 ·rename_i u hu
  split at h
  ·rename_i hk;obtain ⟨c,m,y,hc,ht⟩:=leaf _ _ _ _ _ _ _ hu hx;obtain ⟨z,hz,-,-⟩:=DataW.trod_int hk ht
   cases hz
   exact ⟨z,hc⟩
  ·cases h
 ·cases h
theorem bool_at {t:TypeId} {j fuel:Nat} {cs:List Value} {x:DataW H×List MemPlace} (h:boolAt P t j=true) (hx:DataW.trod enc P w 0 (fun _=>true) true fuel t cs=some x):∃ z,cs[j]? =some (.bool z):=by
 unfold boolAt at h
 split at h
 ·rename_i u hu
  split at h
  ·rename_i hk;obtain ⟨c,m,y,hc,ht⟩:=leaf _ _ _ _ _ _ _ hu hx;obtain ⟨z,hz,-⟩:=DataW.trod_bool hk ht
   cases hz
   exact ⟨z,hc⟩
  ·cases h
 ·cases h
end
section
variable {H:Type} {enc:TypeId×Value→H} {W:World} {r:Reach} {b0:Nat} {v:Value} {d:DataW H} {p:List MemPlace}
def cellOf (cs:List Value) (j:Nat):Value:=cs.getD j (.bool false)
theorem cellOf_eq {cs:List Value} {j:Nat} {c:Value} (h:cs[j]? =some c):cellOf cs j=c:=by
 unfold cellOf;simp [List.getD,h]
theorem open_head (hval:Value.okWide Tryz.prog W r b0 26 v) (h:DataW.Trod enc Tryz.prog W 0 (fun _=>true) true 26 v d p):
 ∃ (hd:Nat→Value) (t a0 a1 qp:Int) (sp:Bool),v=.agg (hdL hd).toArray∧hd 2=.int .i64 t∧hd 6=.bool sp∧hd 7=.int .i64 a0∧hd 8=.int .i64 a1∧hd 17=.int .i64 qp:=by
 obtain ⟨cs,rfl,hs⟩:=okWide_struct Tryz.underlying26 hval;obtain ⟨fu,hf⟩:=h;have hs2:cs.size=21:=hs.trans (by kernel_rfl);have I:∀ j,intAt Tryz.prog 26 j=true→∃ z,cellOf cs.toList j=.int .i64 z:=fun j hj=>by
  obtain ⟨z,hz⟩:=int_at hj hf;exact ⟨z,cellOf_eq hz⟩
 obtain ⟨t,h2⟩:=I 2 (by kernel_rfl);obtain ⟨a0,h7⟩:=I 7 (by kernel_rfl);obtain ⟨a1,h8⟩:=I 8 (by kernel_rfl);obtain ⟨qp,h17⟩:=I 17 (by kernel_rfl);obtain ⟨sp,h6⟩:=bool_at (j:=6) (by kernel_rfl) hf;refine ⟨cellOf cs.toList,t,a0,a1,qp,sp,?_,h2,cellOf_eq h6,h7,h8,h17⟩
 congr 1
 apply Array.ext'
 show cs.toList=(List.range 21).map (cellOf cs.toList)
 refine List.ext_getElem (by simp [hs2]) fun i hi hi2=>?_
 simp only [List.getElem_map,List.getElem_range];exact (cellOf_eq (List.getElem?_eq_getElem hi)).symm
theorem open_pps (hval:Value.okWide Tryz.prog W r b0 28 v) (h:DataW.Trod enc Tryz.prog W 0 (fun _=>true) true 28 v d p):
 ∃ (PL:List Value) (cabac:Bool),v=.agg PL.toArray∧(Tryz.prog.info? 28).map (·.size)=some PL.length∧PL[0]? =some (.bool cabac):=by
 obtain ⟨cs,rfl,hs⟩:=okWide_struct Tryz.underlying28 hval;obtain ⟨fu,hf⟩:=h;obtain ⟨b,hb⟩:=bool_at (j:=0) (by kernel_rfl) hf;refine ⟨cs.toList,b,by simp,?_,hb⟩;rw [Array.length_toList,hs]
 kernel_rfl
theorem cells_at {a:Addr} {n:Nat} {cs:List Value} (h:W.cells? 0 a n=some cs) (j:Nat) (hj:j<n):W.cell? (a.add j)=some (cellOf cs j):=by
 unfold World.cells? at h
 split at h
 ·have k:=mapM_some_get h j j (by simp [hj]);rw [k];have hl:=mapM_some_length h;simp only [List.length_range] at hl;unfold cellOf;rw [List.getD,List.getElem?_eq_getElem (by omega)]
  rfl
 ·cases h
def valZ:Value→Int
 | .int _ z=>z
 |_=>0
theorem mb_arg {fuel:Nat} {cs:List Value} {x:DataW H×List MemPlace} (h:DataW.trod enc Tryz.prog W 0 (fun _=>true) true fuel 51 cs=some x):∃ (m:MbN) (len:Nat),MbArg W (cellOf cs) m len:=by
 have hI:((List.range 482).all fun j=>intAt Tryz.prog 51 j)=true:=by kernel_rfl
 have hI:∀ j,j<482→cellOf cs j=.int .i64 (valZ (cellOf cs j)):=fun j hj=>by
  obtain ⟨z,hz⟩:=int_at (List.all_eq_true.1 hI j (List.mem_range.2 hj)) h;rw [cellOf_eq hz]
  rfl
 obtain ⟨c,k,y,hc,ht⟩:=leaf 8 _ 482 _ _ _ 49 (by kernel_rfl) h
 rcases DataW.trod_slice Tryz.underlying49 ht with ⟨e,-⟩|⟨a,len,cap,elems,rest,m,rfl,e,-,-,-,-,hel,hcell,-⟩
 ·cases e
  exact ⟨⟨fun j=>valZ (cellOf cs j),fun _=>0⟩,0,⟨hI,⟨_,_,cellOf_eq hc,fun h=>absurd h (by omega)⟩,fun i=>by simp⟩⟩
 ·cases e
  have key:∀ i,i<len→∃ z,W.cell? (a.add i)=some (.int .u8 z)∧0≤z∧z≤255:=fun i hi=>by
   have q:=hcell i hi;rw [List.getElem?_eq_getElem (by omega)] at q;obtain ⟨xs,hx1,hx2⟩:=Option.bind_eq_some_iff.1 q;rw [show Tryz.prog.cellsOf 5=1 by kernel_rfl,Nat.mul_one] at hx1;obtain ⟨z,rfl,-,hw⟩:=DataW.trod_int Tryz.underlying5 hx2;have:=cells_at hx1 0 (by omega);rw [addr_add] at this;exact ⟨z,this,bounds_u8 hw⟩
  obtain ⟨zs,-,hz⟩:=list_pick 0 _ len key;refine ⟨⟨fun j=>valZ (cellOf cs j),fun i=>if i<len then zs.getD i 0 else 0⟩,len,⟨hI,⟨_,_,cellOf_eq hc,fun h0=>?_⟩,fun i=>?_⟩⟩
  ·have hsp:=World.cell?_spot (hz 0 h0).1;have hspot:a.spot=none:=by
    unfold Addr.add at hsp
    split at hsp<;>simp_all
   obtain ⟨g,off,sp⟩:=a;simp only at hspot;subst hspot;refine ⟨g,off,rfl,fun i hi=>?_⟩;have k0:=(hz i hi).1;rw [add_plain] at k0;rw [k0];simp only [if_pos hi]
  ·dsimp only
   split
   ·rename_i hi;exact (hz i hi).2
   ·omega
theorem open_mbs (hval:Value.okWide Tryz.prog W r b0 29 v) (h:DataW.Trod enc Tryz.prog W 0 (fun _=>true) true 29 v d p):
 ∃ (n:Nat) (X:Nat→Nat→Value) (m:Nat→MbN) (len:Nat→Nat),zMB W v n X m len:=by
 obtain ⟨a0,len0,cap0,rfl⟩:=okWide_slice Tryz.underlying29 hval;obtain ⟨fu,hf0⟩:=h
 rcases DataW.trod_slice Tryz.underlying29 hf0 with ⟨hcs,hx⟩|⟨a,len,cap,elems,rest,m,rfl,hcs,hx,_,hl,hm,hel,hcell,_,_⟩
 ·simp [Value.cells] at hcs;obtain ⟨rfl,rfl,rfl⟩:=hcs;exact ⟨0,fun _ _=> .bool false,fun _=>⟨fun _=>0,fun _=>0⟩,fun _=>0,⟨⟨_,_,rfl,fun h=>absurd h (by omega)⟩,fun i hi=>absurd hi (by omega)⟩⟩
 ·simp [Value.cells] at hcs;obtain ⟨rfl,rfl,rfl⟩:=hcs;have key:∀ i,i<len0→∃ q:List Value×MbN×Nat,(∀ j,j<483→W.cell? (a.add (i*483+j))=some (cellOf q.1 j))∧MbArg W (cellOf q.1) q.2.1 q.2.2:=by
   intro i hi;have q1:=hcell i hi;rw [List.getElem?_eq_getElem (by omega)] at q1;obtain ⟨cs,hcs1,hcs2⟩:=Option.bind_eq_some_iff.1 q1;rw [show Tryz.prog.cellsOf 51=483 by kernel_rfl] at hcs1;obtain ⟨mm,ln,hmb⟩:=mb_arg hcs2;refine ⟨(cs,mm,ln),fun j hj=>?_,hmb⟩;have:=cells_at hcs1 j hj
   rwa [addr_add] at this
  obtain ⟨ys,hyl,hyq⟩:=list_pick ([],⟨fun _=>0,fun _=>0⟩,0) _ len0 key;refine ⟨len0,fun i=>cellOf (ys.getD i ([],⟨fun _=>0,fun _=>0⟩,0)).1,fun i=>(ys.getD i ([],⟨fun _=>0,fun _=>0⟩,0)).2.1,fun i=>(ys.getD i ([],⟨fun _=>0,fun _=>0⟩,0)).2.2,⟨⟨_,_,rfl,fun h0=>?_⟩,fun i hi=>(hyq i hi).2⟩⟩;have hsp:=World.cell?_spot ((hyq 0 h0).1 0 (by omega));have hspot:a.spot=none:=by
   unfold Addr.add at hsp
   split at hsp<;>simp_all
  obtain ⟨g,off,sp⟩:=a;simp only at hspot;subst hspot;refine ⟨g,off,rfl,fun i hi j c hc=>?_⟩;have hj:j<483:=by
   have:=(List.getElem?_eq_some_iff.1 hc).1
   simpa [fnA] using this
  have h1:=(hyq i hi).1 j hj;rw [add_plain] at h1;rw [Nat.add_assoc,h1];have h2:=zL5 (n:=483) (cellOf (ys.getD i ([],⟨fun _=>0,fun _=>0⟩,0)).1) hj;rw [←Array.getElem?_toList,hc] at h2;exact h2.symm
end
end Go.Proofs.YtcppbdlmcbjmeaaGreatDoor
namespace Go.Proofs.YtcppbdlmcbjmeaaGreatDoor
open Go.RowKit
theorem Only.below {w w' : World} (h : Only [] w w') : Below w.heap.size w w' := ⟨h.os, h.tape, h.output, h.size, fun k hk => h.block k hk (by simp)⟩
theorem Only.frame {W w' : World} (h : Only [] W w') (may : MemPlace → Prop) : W.keptBut w' may := h.below.frame may
def laidL : List (String × DataW Unit) := [("unicode.White_Space", Rows.laid_unicode_White_Space), ("strings.asciiSpace", Rows.laid_strings_asciiSpace)]
theorem asc_datum : (Rows.laid_strings_asciiSpace : DataW Unit) = Lib.tabData .u8 Lib.asciiSpaceTab := by kernel_rfl
theorem laid_asc {W : World} (h : laidMetH Tryz.prog laidL W) : Asc W := by
  rw [MakeChecks.laidMetH_plain _ _ _ (by kernel_rfl)] at h
  have h2 := laidMet.tail h
  rw [asc_datum] at h2
  exact Lib.tabIs_of_head (rest := []) (t := 261) (e := 5) (n := 256) zHV (by kernel_rfl) (by kernel_rfl) Tryz.underlying5 (by kernel_rfl) (by kernel_rfl) h2
noncomputable def laidWorld (os : Os) : World := World.laidAll Tryz.prog os laidL
theorem laid_met (os : Os) (args : Array Value) : laidMet Tryz.prog laidL ((laidWorld os).forCall (fun _ _ => 0) ⟨#[], args, []⟩).memory :=
  laidMet_laidAll _ (by kernel_rfl) (by kernel_rfl)
end Go.Proofs.YtcppbdlmcbjmeaaGreatDoor
namespace Go.Proofs.YtcppbdlmcbjmeaaGreatDoor
open Go.ChangeShapes Go.WideShapes Go.ChangeAt Go.RowKit
theorem laidOut : laidOutB Tryz.prog = true := by kernel_rfl
theorem trodAll_later {P : Program} {H : Type} {enc : TypeId × Value → H} {W W' : World} (hl : laidOutB P = true) (hb : Below W.heap.size W W') : ∀ {ts : List TypeId} {vs : List Value} {ds : List (DataW H)} {ps : List MemPlace},
    (ts.all fun t => P.readableRec t && decide (t < P.types.size)) = true → (∀ x ∈ ps, x.block < W.heap.size) → DataW.TrodAll enc P W 0 (fun _ => true) true ts vs ds ps →
    DataW.TrodAll enc P W' 0 (fun b => decide (b < W.heap.size)) true ts vs ds ps := by
  intro ts
  induction ts with
  | nil =>
    intro vs ds ps _ _ h
    cases vs <;> cases ds <;> simp_all [DataW.TrodAll]
  | cons t ts ih =>
    intro vs ds ps hr hlt h
    obtain ⟨v, vs, d, ds, p, q, rfl, rfl, rfl, h1, h2⟩ := trodAll_cons h
    simp only [List.all_cons, Bool.and_eq_true, decide_eq_true_eq] at hr
    exact trodAll_cons_mk (Below.trod hl hr.1.1 hr.1.2 h1 hb (fun x hx => hlt x (by simp [hx]))) (ih hr.2 (fun x hx => hlt x (by simp [hx])) h2)
theorem post_true {H : Type} {enc : TypeId × Value → H} {P : Program} {tb : TypeId} {W W' : World} {args : Array Value} {ds gs : List (DataW H)} {before : List MemPlace} (hl : laidOutB P = true) (htb : P.underlying tb = some .bool) (f : Func) (s : ChangeSpec)
    (hW : DataW.Whole enc P f.params.toList s.vars false W args.toList ds gs before) (hs : s.vars = []) (hr : f.resultTypes = #[tb])
    (hres : (s.fn H (ds ++ gs)).results = [.lit (.bool true)]) (harg : (s.fn H (ds ++ gs)).args = ds) (hvar : (s.fn H (ds ++ gs)).vars = [])
    (hp : (f.params.toList.all fun t => P.readableRec t && decide (t < P.types.size)) = true) (ho : Only [] W W') :
    s.post enc P f false true false false W args (.bool true) W' := by
  have hlt : ∀ x ∈ before, x.block < W.heap.size := fun x hx => by simpa using hW.lt x hx
  obtain ⟨p, q, hA, hV, hb, hfz, hnd⟩ := id hW
  rw [hs] at hV
  obtain ⟨rfl, rfl⟩ := trodVars_none hV
  rw [List.append_nil] at hb
  subst hb
  refine ⟨ds, [], before, [], before, [], hW, ?_, ?_, ?_, ho.frame _, fun h => by cases h⟩
  · rw [hr, hres]
    exact trodAll_cons_mk (shut_bool htb _) trodAll_mk0
  · rw [harg]
    exact trodAll_later hl ho.below hp hlt hA
  · rw [hs, hvar]; rfl
end Go.Proofs.YtcppbdlmcbjmeaaGreatDoor
