/- Lemmas that the law needs, part 1. -/
import Derived.WalkKit
import Derived.WalkSpells
import Derived.WalkLawsBesides
import Derived.Lib.Hide
import Derived.Deep.QuietTactic
import Derived.BigQuiet
import Derived.Laws.CopyOwn
import Derived.Deep.RegionHeld3
import Derived.Laws.BytesArg
import Derived.Laws.Build
namespace Go.Proofs.YtcppbdlmcbjmeaaGreatDoor
open Go.RowKit
structure Only (S:List Nat) (w w':World):Prop where
 os:w'.os=w.os
 tape:w'.tape=w.tape
 output:w'.output=w.output
 size:w.heap.size≤w'.heap.size
 block:∀ k,k<w.heap.size→k∉S→w'.heap[k]? =w.heap[k]?
theorem Only.refl (S:List Nat) (w:World):Only S w w:=⟨rfl,rfl,rfl,Nat.le_refl _,fun _ _ _=>rfl⟩
theorem Only.trans {S:List Nat} {a b c:World} (h:Only S a b) (k:Only S b c):Only S a c:=
 ⟨k.os.trans h.os,k.tape.trans h.tape,k.output.trans h.output,Nat.le_trans h.size k.size,
  fun i hi hs=>(k.block i (Nat.lt_of_lt_of_le hi h.size) hs).trans (h.block i hi hs)⟩
theorem Only.trans' {S T:List Nat} {a b c:World} (h:Only S a b) (k:Only T b c) (hT:∀ i∈T,i∈S∨a.heap.size≤i):Only S a c:=
 ⟨k.os.trans h.os,k.tape.trans h.tape,k.output.trans h.output,Nat.le_trans h.size k.size,
  fun i hi hs=>(k.block i (Nat.lt_of_lt_of_le hi h.size) (fun ht=>(hT i ht).elim hs (by omega))).trans (h.block i hi hs)⟩
theorem Only.mono {S T:List Nat} {a b:World} (h:Only S a b) (hT:∀ i∈S,i∈T):Only T a b:=
 ⟨h.os,h.tape,h.output,h.size,fun i hi hs=>h.block i hi (fun g=>hs (hT i g))⟩
theorem Only.alloc {S:List Nat} {a w:World} (h:Only S a w) (o:Obj):Only S a (w.alloc o):=
 h.trans ⟨rfl,rfl,rfl,by simp,fun k hk _=>Below.heap_alloc _ _ _ hk⟩
theorem Only.drew {S:List Nat} {a w:World} (h:Only S a w):Only S a w.drew:=⟨h.os,h.tape,h.output,h.size,h.block⟩
theorem Only.setCell {S:List Nat} {a w:World} (h:Only S a w) {p:Addr} (hp:p.block∈S∨a.heap.size≤p.block) (u:Value):Only S a (w.setCell p u):=
 h.trans' (T:=[p.block]) ⟨rfl,rfl,rfl,by simp,fun k _ hs=>Below.heap_setCell _ _ _ _ (by simpa using hs)⟩ (by simpa using hp)
theorem Only.grown {S:List Nat} {a w w':World} {row:Option Nat} (h:Only S a w) (hg:w.grownBy w' row) (hr:∀ k,row=some k→k∈S∨a.heap.size≤k):Only S a w':=
 h.trans' (T:=row.toList) ⟨hg.os,hg.tape,hg.output,hg.size,fun k hk hs=>hg.block k hk (fun e=>hs (by simp [←e]))⟩ (fun i hi=>hr i (by simpa using hi))
theorem Only.below' {B:Nat} {S:List Nat} {w w':World} (h:Only S w w') (hS:∀ k∈S,B≤k) (hB:B≤w.heap.size):Below B w w':=
 ⟨h.os,h.tape,h.output,h.size,fun k hk=>h.block k (by omega) (fun hs=>by have:=hS k hs;omega)⟩
theorem Only.of_below {w w':World} (h:Below w.heap.size w w'):Only [] w w':=⟨h.os,h.tape,h.output,h.size,fun k hk _=>h.block k hk⟩
theorem Only.trans_below {S:List Nat} {B:Nat} {a b c:World} (h:Only S a b) (k:Below B b c) (hB:a.heap.size≤B):Only S a c:=
 ⟨k.os.trans h.os,k.tape.trans h.tape,k.output.trans h.output,Nat.le_trans h.size k.size,fun i hi hs=>(k.block i (by omega)).trans (h.block i hi hs)⟩
theorem Only.heap {S:List Nat} {w w':World} (h:Only S w w') {k:Nat} {o:Obj} (ho:w.heap[k]? =some o) (hs:k∉S):w'.heap[k]? =some o:=
 (h.block k (lt_of_block ho) hs).trans ho
theorem zB {w:World} {b i:Nat} {cs:Array Value} {e:TypeId} {f:Nat×Nat} (u:Value) (h:w.heap[b]? =some (.cells cs e f)):
 (w.setCell ⟨b,i,none⟩ u).heap[b]? =some (.cells (cs.setIfInBounds i u) e f):=by
 simp [World.setCell,Array.getElem?_modify,h]
theorem zC {w:World} {b i k:Nat} {o:Obj} (u:Value) (h:w.heap[k]? =some o) (hk:k≠b):
 (w.setCell ⟨b,i,none⟩ u).heap[k]? =some o:=(Below.heap_setCell _ _ _ _ hk).trans h
theorem ZE {w:World} {k:Nat} {o:Obj} (x:Obj) (h:w.heap[k]? =some o):(w.alloc x).heap[k]? =some o:=
 (Below.heap_alloc _ _ _ (lt_of_block h)).trans h
theorem ZA (w:World) (x:Obj):(w.alloc x).heap[w.heap.size]? =some x:=heap_alloc_new w x
theorem zA {w:World} {b:Nat} {cs:Array Value} {e:TypeId} (h:w.heap[b]? =some (.cells cs e (0,0))):∀ i,w.cell? ⟨b,i,none⟩=cs[i]? :=by
 intro i;simp [World.cell?,h]
theorem ZB {w:World} {b:Nat} {cs:Array Value} {e:TypeId} (h:w.heap[b]? =some (.cells cs e (0,0))):∀ i,w.frozen? ⟨b,i,none⟩=false:=by
 intro i;simp [World.frozen?,h]
structure Elt (P:Program) (t e:TypeId) (z:Value) (size bytes:Nat):Prop where
 ht:P.underlying t=some (.slice e)
 hi:(P.info? e).map (fun i=>(i.zero,i.size,i.bytes))=some (some z,size,bytes)
 zs:z.cells.size=size
 pos:0<size
def Pushed (w:World) (base:Nat) (e:TypeId) (size:Nat) (v:Value) (n:Nat) (xs:List Value) (v':Value) (w':World):Prop:=
 w'.ownsRow base e size v' n xs∧w.grownBy w' v.ownBlock∧∃ g cap,v'=.slice (some ⟨g,0,none⟩) n cap∧(v.ownBlock=some g∨w.heap.size≤g)
theorem zHs {P:Program} {w:World} {t ty e:TypeId} {z:Value} {size bytes:Nat} (E:Elt P t e z size bytes) (base:Nat) (v:Value) (n:Nat) (xs:List Value) (hown:w.ownsRow base e size v n xs)
 (a:Addr) (m c:Nat) (news:List Value) (hl:news.length=m*size) (hnews:∀ j u,news[j]? =some u→w.cell? (a.add j)=some u) (h1:∀ u∈news,u.oneCell'=true)
 (hm:0<m) (hbytes:(n+m)*bytes≤140737488355328) (hn:n+m≤140737488355328) (hbase:base≤w.heap.size):
 ∃ v' w',(Builtin.append_ #[t,t] ty #[v,.slice (some a) m c]).run P w=.ok v' w'∧Pushed w base e size v (n+m) (xs++news) v' w':=by
 obtain ⟨i,hi,hz,rfl,rfl⟩:=info_parts E.hi;have h63:n+m≤maxLen:=by unfold maxLen;omega
 have hlen:(xs++news).length=(n+m)*i.size:=by rw [List.length_append,hown.1,hl,Nat.add_mul]
 have new:∀ old,Pushed w base e i.size v (n+m) (xs++news) (.slice (some ⟨w.heap.size,0,none⟩) (n+m) (grownCap w (n+m) old e))
  (w.drew.alloc (.cells (xs.toArray++news.toArray++Builtin.zeroCells z.cells (grownCap w (n+m) old e-(n+m))) e)):=by
  intro old;have hge:=grownCap_ge w (n+m) old e;refine ⟨⟨hlen,.inr ⟨w.heap.size,_,_,rfl,hbase,heap_alloc_new w.drew _,hge,grownCap_le_maxLen w (n+m) old e h63,?_,?_⟩⟩,
   ⟨rfl,rfl,rfl,by simp,fun k hk _=>Below.heap_alloc w.drew _ k hk⟩,_,_,rfl,.inr (Nat.le_refl _)⟩
  ·simp only [Array.size_append,List.size_toArray,size_zeroCells,E.zs,hown.1,hl,←Nat.add_mul]
   congr 1
   omega
  ·simp only [Array.toList_append,List.append_assoc];rw [←List.append_assoc,←hlen];exact List.take_left
 rcases hown.2 with ⟨rfl,rfl⟩|⟨g,cap,cur,rfl,hbg,hg,hnc,hcm,hcs,htake⟩
 ·have hx:xs=[]:=List.eq_nil_of_length_eq_zero (by simpa using hown.1);subst hx;have hr:=run_append_nil (P:=P) w t ty e i z E.ht hi hz a m c news hl hnews hm (by omega) (by simp only [Nat.zero_add] at hbytes;omega);have hgr:=new 0;simp only [Nat.zero_add,List.nil_append,Array.empty_append] at hgr ⊢;exact ⟨_,_,hr,hgr⟩
 ·by_cases hroom:n+m≤cap
  ·have hfit:n*i.size+news.length≤cur.size:=by rw [hl,hcs,←Nat.add_mul];exact Nat.mul_le_mul_right _ hroom
   have hr:=run_append_room (P:=P) w t ty e i E.ht hi g n cap cur hg a m c news hl hnews h1 hroom hfit;refine ⟨_,_,hr,⟨hlen,.inr ⟨g,cap,_,rfl,hbg,setRow_heap w g cur _ e _ hg,hroom,hcm,?_,?_⟩⟩,
    ⟨rfl,rfl,rfl,by simp,fun k _ hk=>setRow_other w g k _ (fun e=>hk (by simp [Value.ownBlock,e]))⟩,_,_,rfl,.inl rfl⟩
   ·simp only [List.size_toArray,List.length_append,List.length_take,List.length_drop,Array.length_toList];omega
   ·rw [htake,←hlen];exact List.take_left
  ·have hr:=run_append_grow (P:=P) w t ty e i z E.ht hi hz ⟨g,0,none⟩ n cap xs hown.1 (hown.cells (g:=g) rfl) a m c news hl hnews (by omega) (by omega) (growslice_fits (by omega) hbytes);exact ⟨_,_,hr,new cap⟩
theorem zAo {P:Program} {w:World} {ops:Array Oper} {rest:List Oper} {o:Oper} {a:Act} {Q:Exit→Act→World→Prop} (hgd:o.guard=none) (s x:Operand) {t e:TypeId}
 (ho:o.op=.call { callee:=.builtin .append,args:=#[s,x],argTypes:=#[t,t] }) {z:Value} {size bytes:Nat} (E:Elt P t e z size bytes)
 (base:Nat) (v:Value) (n:Nat) (xs:List Value) (hs:a.eval s=v) (hown:w.ownsRow base e size v n xs)
 (ad:Addr) (m c:Nat) (news:List Value) (hx:a.eval x=.slice (some ad) m c) (hl:news.length=m*size) (hnews:∀ j u,news[j]? =some u→w.cell? (ad.add j)=some u) (h1:∀ u∈news,u.oneCell'=true)
 (hm:0<m) (hby:(n+m)*bytes≤140737488355328) (hn:n+m≤140737488355328) (hbase:base≤w.heap.size)
 (h:∀ g cap w',Pushed w base e size v (n+m) (xs++news) (.slice (some ⟨g,0,none⟩) (n+m) cap) w'→wpList P ops Q rest (a.put o.dst (.slice (some ⟨g,0,none⟩) (n+m) cap)) w'):
 wpList P ops Q (o::rest) a w:=by
 obtain ⟨v',w',hr,hp⟩:=zHs (ty:=o.type) E base v n xs hown ad m c news hl hnews h1 hm hby hn hbase;obtain ⟨g,cap,rfl,_⟩:=hp.2.2;refine wpList_plain hgd fun _ hK=>?_
 unfold Oper.wp execOp;simp only [ho,resolve,invoke,builtin,Sem.run_bind,Sem.run_pure,Result.andThen_ok,List.map_toArray,List.map_cons,List.map_nil,hs,hx,hr];exact hK _ _ (h g cap w' hp)
theorem zFa {P:Program} {w:World} {ops:Array Oper} {rest:List Oper} {o:Oper} {a:Act} {Q:Exit→Act→World→Prop} (hgd:o.guard=none) (s x:Operand) {t e:TypeId}
 (ho:o.op=.call { callee:=.builtin .append,args:=#[s,x],argTypes:=#[t,t] }) {z:Value} {size bytes:Nat} (E:Elt P t e z size bytes)
 (base:Nat) (v:Value) (n:Nat) (xs:List Value) (hs:a.eval s=v) (hown:w.ownsRow base e size v n xs)
 (ad:Addr) (m c:Nat) (news:List Value) (hx:a.eval x=.slice (some ad) m c) (hl:news.length=m*size) (hnews:∀ j u,news[j]? =some u→w.cell? (ad.add j)=some u) (h1:∀ u∈news,u.oneCell'=true)
 (hm:0<m) (hby:bytes≤1024) (hn:n+m≤100000000000) (hbase:base≤w.heap.size)
 (h:∀ g cap w',Pushed w base e size v (n+m) (xs++news) (.slice (some ⟨g,0,none⟩) (n+m) cap) w'→wpList P ops Q rest (a.put o.dst (.slice (some ⟨g,0,none⟩) (n+m) cap)) w'):
 wpList P ops Q (o::rest) a w:=by
 have:(n+m)*bytes≤100000000000*1024:=Nat.mul_le_mul (by omega) hby;exact zAo hgd s x ho E base v n xs hs hown ad m c news hx hl hnews h1 hm (by omega) (by omega) hbase h
theorem Pushed.of_alloc {w:World} {base:Nat} {e:TypeId} {size:Nat} {v:Value} {n:Nat} {xs:List Value} {v':Value} {w':World} {x:Obj} (h:Pushed (w.alloc x) base e size v n xs v' w'):Pushed w base e size v n xs v' w':=by
 obtain ⟨h1,h2,g,cap,h3,h4⟩:=h;refine ⟨h1,⟨h2.os,h2.tape,h2.output,?_,?_⟩,g,cap,h3,?_⟩
 ·have:=h2.size;simp at this;omega
 ·intro k hk hr;rw [h2.block k (by simp;omega) hr];exact Below.heap_alloc _ _ _ hk
 ·rcases h4 with h|h
  ·exact .inl h
  ·simp at h;exact .inr (by omega)
theorem zf {P:Program} {w:World} {ops:Array Oper} {rest:List Oper} {o:Oper} {a:Act} {Q:Exit→Act→World→Prop} (hgd:o.guard=none) (s x:Operand) {t e:TypeId}
 (ho:o.op=.call { callee:=.builtin .append,args:=#[s,x],argTypes:=#[t,t] }) {z:Value} {bytes:Nat} (E:Elt P t e z 1 bytes)
 (base:Nat) (v:Value) (n:Nat) (xs:List Value) (u:Value) (hown:w.ownsRow base e 1 v n xs) (hs:a.eval s=v) {gx:Nat} (hx:a.eval x=.slice (some ⟨gx,0,none⟩) 1 1) (hgx:gx=w.heap.size)
 (hu:u.oneCell'=true) (hbase:base≤w.heap.size) (hb:bytes≤1024) (hn:n<100000000000)
 (h:∀ g cap w',Pushed w base e 1 v (n+1) (xs++[u]) (.slice (some ⟨g,0,none⟩) (n+1) cap) w'→wpList P ops Q rest (a.put o.dst (.slice (some ⟨g,0,none⟩) (n+1) cap)) w'):
 wpList P ops Q (o::rest) a (w.alloc (.cells #[u] e)):=by
 subst hgx;refine zFa hgd s x ho E base v n xs hs (hown.alloc _) ⟨w.heap.size,0,none⟩ 1 1 [u] hx rfl ?_ ?_ (by decide) hb (by omega) (by simp;omega) fun g cap w' hp=>h g cap w' hp.of_alloc
 ·intro j y hj
  match j,hj with
  |0,hj=>simp at hj;subst hj;simp [Addr.add]
 ·intro y hy;simp at hy;subst hy;exact hu
theorem zS {w:World} {B:Nat} {e:TypeId} {s:Nat} {v:Value} {n m:Nat} {xs ys:List Value} (h:w.ownsRow B e s v n xs) (hn:n=m) (hx:xs=ys):w.ownsRow B e s v m ys:=by
 subst hn;subst hx;exact h
theorem zD {w:World} {B:Nat} {e:TypeId} {s:Nat} {v:Value} {n:Nat} {xs:List Value} (h:w.ownsRow B e s v n xs) {g:Nat} (hg:v.ownBlock=some g):
 ∃ cur,w.heap[g]? =some (.cells cur e (0,0)):=by
 rcases h.2 with ⟨rfl,_⟩|⟨g',cap,cur,rfl,_,hh,_⟩
 ·simp [Value.ownBlock] at hg
 ·simp [Value.ownBlock] at hg;subst hg;exact ⟨cur,hh⟩
theorem zF {w w':World} {B:Nat} {e:TypeId} {s:Nat} {v:Value} {n:Nat} {xs:List Value} (h:w.ownsRow B e s v n xs)
 (hk:∀ g,v.ownBlock=some g→w'.heap[g]? =w.heap[g]?):w'.ownsRow B e s v n xs:=by
 refine ⟨h.1,?_⟩
 rcases h.2 with hn|⟨g,cap,cur,rfl,hb,hh,r⟩
 ·exact .inl hn
 ·exact .inr ⟨g,cap,cur,rfl,hb,(hk g rfl).trans hh,r⟩
theorem zBV (j:Nat) (hj:j≤62) (n:Int):bits .and .i64 n ((2:Int)^j-1)=n%2^j:=by
 have h2:(2:Int)^j=((2^j:Nat):Int):=by simp
 have hp:1≤2^j:=Nat.one_le_two_pow;have hle:2^j≤2^62:=Nat.pow_le_pow_right (by decide) hj;have hm:(BitVec.ofInt 64 ((2:Int)^j-1)).toNat=2^j-1:=by
  rw [h2,BitVec.toNat_ofInt];omega
 have hn:(BitVec.ofInt 64 n&&& BitVec.ofInt 64 ((2:Int)^j-1)).toNat=(n%18446744073709551616).toNat%2^j:=by
  rw [BitVec.toNat_and,hm,BitVec.toNat_ofInt,Nat.and_two_pow_sub_one_eq_mod];simp
 have hd:((2^j:Nat):Int)∣18446744073709551616:=by
  have:2^j∣2^64:=Nat.pow_dvd_pow 2 (by omega);exact Int.natCast_dvd_natCast.2 this
 have hlt:=Nat.mod_lt (n%18446744073709551616).toNat (show 0<2^j by omega);have he:(((n%18446744073709551616).toNat%2^j:Nat):Int)=n%2^j:=by
  rw [Int.natCast_emod,Int.toNat_of_nonneg (by omega),h2,Int.emod_emod_of_dvd _ hd]
 unfold bits
 show IntKind.i64.wrap ((BitVec.ofInt 64 n&&& BitVec.ofInt 64 ((2:Int)^j-1)).toNat:Int)=_
 rw [hn,IntKind.wrap_i64,he];rw [←he];omega
@[go_sem] theorem zNr (n:Int):bits .and .i64 n 1=n%2:=zBV 1 (by decide) n
@[go_sem] theorem zNq (n:Int):bits .and .i64 n 3=n%4:=zBV 2 (by decide) n
@[go_sem] theorem zNp (n:Int):bits .and .i64 n 7=n%8:=zBV 3 (by decide) n
@[go_sem] theorem zKM (n:Int):bits .and .i64 n 15=n%16:=zBV 4 (by decide) n
@[go_sem] theorem zNY (n:Int):bits .and .i64 n 31=n%32:=zBV 5 (by decide) n
@[go_sem] theorem zNX (n:Int):bits .and .i64 n 63=n%64:=zBV 6 (by decide) n
@[go_sem] theorem zNC (n:Int):bits .and .i64 n 127=n%128:=zBV 7 (by decide) n
@[go_sem] theorem zNB (n:Int):bits .and .i64 n 255=n%256:=zBV 8 (by decide) n
theorem ZZ {P:Program} {f:FuncId} {fn:Func} (hf:P.funcs[f]? =some fn) (hname:(fn.name== "runtime.NumGoroutine")=false) (hb:fn.body.isNone=false) (args:Array Value) (w:World):
 (callFunc f args).run P w=.ok (.enter f args) w:=by
 have h1:¬ fn.name= "runtime.NumGoroutine":=by simpa using hname
 have h2:¬ fn.body=Option.none:=by intro h;simp [h] at hb
 simp [callFunc,hf,h1,h2]
theorem zq {k:IntKind} {a b:Int} (h:a=b):Ending.returned (.int k a)=.returned (.int k b):=by rw [h]
theorem zB2 {a b:Bool} (h:a=b):Ending.returned (.bool a)=.returned (.bool b):=by rw [h]
def zES (n:Nat) (z:Value):Array Value:=(List.replicate n z).toArray
theorem zDC {P:Program} {w:World} {ops:Array Oper} {rest:List Oper} {o:Oper} {a:Act} {Q:Exit→Act→World→Prop} (hgd:o.guard=none) (l c:Operand) {t e:TypeId}
 (hop:o.op=Op.makeSlice t l c) {z:Value} {bytes:Nat} (E:Elt P t e z 1 bytes) (hz1:z.cells=#[z]) {kl kc:IntKind} {L C:Int} (n:Nat) (hl:a.eval l=.int kl L) (hc:a.eval c=.int kc C)
 (hL:L=(n:Int)) (hC:C=(n:Int)) (hb:bytes*n≤281474976710656) (hn:n≤281474976710656)
 (h:∀ w',w'.heap[w.heap.size]? =some (.cells (zES n z) e (0,0))→Only [] w w'→w'.heap.size=w.heap.size+1→
   wpList P ops Q rest (a.put o.dst (.slice (some ⟨w.heap.size,0,none⟩) n n)) w'):
 wpList P ops Q (o::rest) a w:=by
 obtain ⟨i,hi,hz,hs,hbt⟩:=info_parts E.hi;subst hL hC;have hbytes:(i.bytes:Int)*(n:Int)≤281474976710656:=by
  have h2:((i.bytes*n:Nat):Int)≤281474976710656:=by rw [hbt];omega
  simpa using h2
 have hr:=run_make (P:=P) w t e i z E.ht hi hz kl kc n n (by omega) (Int.le_refl _) hbytes (by omega);refine wpList_plain hgd fun K hK=>?_
 unfold Oper.wp;simp [execOp,hop,hl,hc,hr,Result.andThen];refine hK _ _ (h _ ?_ ((Only.refl _ _).alloc _) (by simp));rw [ZA,hz1,hs]
 congr 2
 apply Array.ext'
 rw [toList_madeCells_one];simp [zES]
theorem zCG {P:Program} {w:World} {ops:Array Oper} {rest:List Oper} {o:Oper} {a:Act} {Q:Exit→Act→World→Prop} (hgd:o.guard=none) (l c:Operand) {t e:TypeId}
 (hop:o.op=Op.makeSlice t l c) {z:Value} {bytes:Nat} (E:Elt P t e z 1 bytes) (hz1:z.cells=#[z]) {kl kc:IntKind} {L C:Int} (n:Nat) (hl:a.eval l=.int kl L) (hc:a.eval c=.int kc C)
 (hL:L=(n:Int)) (hC:C=(n:Int)) (hb:bytes≤1024) (hn:n≤100000000000)
 (h:∀ w',w'.heap[w.heap.size]? =some (.cells (zES n z) e (0,0))→Only [] w w'→w'.heap.size=w.heap.size+1→
   wpList P ops Q rest (a.put o.dst (.slice (some ⟨w.heap.size,0,none⟩) n n)) w'):
 wpList P ops Q (o::rest) a w:=by
 have:bytes*n≤1024*100000000000:=Nat.mul_le_mul hb hn;exact zDC hgd l c hop E hz1 n hl hc hL hC (by omega) (by omega) h
def zA3 (f:Nat→Int) (n k:Nat):List Int:=(List.range n).map fun c=>if c<k then f c else 0
theorem zC7 (f:Nat→Int) (n:Nat):zA3 f n 0=List.replicate n 0:=by
 unfold zA3
 apply List.ext_getElem?
 intro i
 by_cases h:i<n<;>simp [h]
theorem zC8 (f:Nat→Int) (n:Nat):zA3 f n n=(List.range n).map f:=by
 unfold zA3
 apply List.map_congr_left
 intro i hi;rw [if_pos (by simpa using hi)]
theorem zA7 (f:Nat→Int) (n k:Nat):(zA3 f n k).length=n:=by simp [zA3]
theorem zDy (f:Nat→Int) (n k:Nat) (v:Int) (hv:v=f k):(zA3 f n k).set k v=zA3 f n (k+1):=by
 subst hv;unfold zA3
 apply List.ext_getElem?
 intro i
 by_cases h:i<n
 ·by_cases hk:k=i
  ·subst hk;simp [h]
  ·have h1:(i<k+1)↔(i<k):=by omega
   simp [h,hk,h1]
 ·simp [h]
def ints (xs:List Int):Array Value:=(xs.map (Value.int .i64)).toArray
theorem zBh (xs:List Int) (i:Nat) (h:i<xs.length):(ints xs)[i]? =some (.int .i64 (xs.getD i 0)):=by
 simp [ints,h,List.getD]
theorem zBu (xs:List Int) (i:Nat) (v:Int):(ints xs).setIfInBounds i (.int .i64 v)=ints (xs.set i v):=by
 unfold ints;rw [List.map_set];simp
theorem zAL (n:Nat):zES n (.int .i64 0)=ints (List.replicate n 0):=by simp [ints,zES]
theorem zAi {w:World} {B:Nat} {e:TypeId} {v:Value} {n:Nat} {xs:List Value} (h:w.ownsRow B e 1 v n xs) (hn:0<n):
 ∃ g cap cur,v=.slice (some ⟨g,0,none⟩) n cap∧B≤g∧w.heap[g]? =some (.cells cur e (0,0))∧∀ i,i<n→w.cell? ⟨g,i,none⟩=xs[i]? :=by
 rcases h.2 with ⟨_,h0⟩|⟨g,cap,cur,rfl,hb,hg,_⟩
 ·omega
 ·exact ⟨g,cap,cur,rfl,hb,hg,fun i hi=>h.cellAt i (by omega)⟩
theorem Only.cell {S:List Nat} {w w':World} (h:Only S w w') {a:Addr} {v:Value} (hc:w.cell? a=some v) (hs:a.block∉S):w'.cell? a=some v:=
 (World.cell?_of_block (h.block a.block (World.block_lt_of_cell? w a hc) hs)).trans hc
theorem Only.drewN {S:List Nat} {a w:World} (h:Only S a w) (n:Nat):Only S a (w.drewN n):=⟨h.os,h.tape,h.output,h.size,h.block⟩
theorem zEn {P:Program} {ops:Array Oper} {o:Oper} {a:Act} {w:World} {K:Act→World→Prop} {Q:Exit→Act→World→Prop} {E:Prop} (hgd:o.guard=none) (d s:Operand) (dT sT:TypeId)
 (ho:o.op=.call { callee:=.builtin .copy,args:=#[d,s],argTypes:=#[dT,sT] }) (elem:TypeId) (hu:P.underlying dT=some (.slice elem)) (hsz:(P.info? elem).map (·.size)=some 1)
 (g off dLen dCap:Nat) (ad:Addr) (sLen sCap:Nat) (hd:a.eval d=.slice (some ⟨g,off,none⟩) dLen dCap) (hs:a.eval s=.slice (some ad) sLen sCap)
 (cur:Array Value) (t:TypeId) (hg:w.heap[g]? =some (.cells cur t (0,0))) (cs:List Value) (hn:cs.length=Nat.min sLen dLen)
 (hsrc:∀ j v,cs[j]? =some v→w.cell? (ad.add j)=some v) (hfit:off+cs.length≤cur.size) (h1:∀ v∈cs,v.oneCell'=true)
 (h:∀ w',w'.heap[g]? =some (.cells (cur.toList.take off++(cs++cur.toList.drop (off+cs.length))).toArray t (0,0))→Only [g] w w'→K (a.put o.dst (goInt cs.length)) w'):
 if Region.wanted o (yielded ops a.tmps)=true then Oper.wp P o a w K Q else E:=by
 have hw:Region.wanted o (yielded ops a.tmps)=true:=by simp [Region.wanted,hgd]
 rw [if_pos hw];have hrun:=run_copy_row (P:=P) w dT sT o.type elem g off dLen dCap ad sLen sCap cur t cs hu hsz hg hn hsrc hfit h1;unfold Oper.wp;simp [execOp,ho,resolve,invoke,builtin,hd,hs,hrun,Result.andThen];refine h _ (setRow_heap w g cur _ t _ hg) ⟨rfl,rfl,rfl,by simp [World.setRow],fun k _ hk=>setRow_other w g k _ (by simpa using hk)⟩
theorem zBm {P:Program} {w:World} {ops:Array Oper} {rest:List Oper} {o:Oper} {a:Act} {Q:Exit→Act→World→Prop} (hgd:o.guard=none) (d s:Operand) (dT sT:TypeId)
 (ho:o.op=.call { callee:=.builtin .copy,args:=#[d,s],argTypes:=#[dT,sT] }) (elem:TypeId) (hu:P.underlying dT=some (.slice elem)) (hsz:(P.info? elem).map (·.size)=some 1)
 (g off dLen dCap:Nat) (ad:Addr) (sLen sCap:Nat) (hd:a.eval d=.slice (some ⟨g,off,none⟩) dLen dCap) (hs:a.eval s=.slice (some ad) sLen sCap)
 (cur:Array Value) (t:TypeId) (hg:w.heap[g]? =some (.cells cur t (0,0))) (cs:List Value) (hn:cs.length=Nat.min sLen dLen)
 (hsrc:∀ j v,cs[j]? =some v→w.cell? (ad.add j)=some v) (hfit:off+cs.length≤cur.size) (h1:∀ v∈cs,v.oneCell'=true)
 (h:∀ w',w'.heap[g]? =some (.cells (cur.toList.take off++(cs++cur.toList.drop (off+cs.length))).toArray t (0,0))→Only [g] w w'→wpList P ops Q rest (a.put o.dst (goInt cs.length)) w'):
 wpList P ops Q (o::rest) a w:=by
 refine wpList_plain hgd fun K hK=>?_
 have hrun:=run_copy_row (P:=P) w dT sT o.type elem g off dLen dCap ad sLen sCap cur t cs hu hsz hg hn hsrc hfit h1;unfold Oper.wp;simp [execOp,ho,resolve,invoke,builtin,hd,hs,hrun,Result.andThen];refine hK _ _ (h _ (setRow_heap w g cur _ t _ hg) ⟨rfl,rfl,rfl,by simp [World.setRow],fun k _ hk=>setRow_other w g k _ (by simpa using hk)⟩)
theorem zBS {P:Program} {w:World} {B src e dst:TypeId} {v:Value} {xs:List Int} (hs:P.underlying src=some (.slice e)) (he:P.underlying e=some (.int .u8)) (hd:P.underlying dst=some .string)
 (hown:w.ownsRow B e 1 v xs.length (xs.map (Value.int .u8))):(convert src dst v).run P w=.ok (.string (strOfNums xs)) w:=by
 rcases hown.2 with ⟨rfl,h⟩|⟨g,cap,cur,rfl,_⟩
 ·have:xs=[]:=List.eq_nil_of_length_eq_zero h;subst this;exact run_convert_bytes_nil w src e hs he 0 0 dst hd
 ·refine run_convert_bytes_arg w src e hs he g 0 xs.length cap xs rfl ?_ dst hd;intro i hi;rw [Nat.zero_add,hown.cellAt i (by omega)];simp [List.getElem?_eq_getElem hi]
theorem zFZ {P:Program} {w:World} {ops:Array Oper} {rest:List Oper} {o:Oper} {a:Act} {Q:Exit→Act→World→Prop} (hgd:o.guard=none) (t:TypeId) (len:Nat) (parts:Array (Nat×Operand))
 (ho:o.op=.buildSlice t len parts) {e:TypeId} {z:Value} {bytes:Nat} (E:Elt P t e z 1 bytes) (hz1:z.cells=#[z]) (cells:Array Value) (h0:0<len) (hlen:len≤16777216)
 (hfill:Instr.fill (fun i=>some (i*1,1)) ((Array.range (len*1)).map (#[z][·%1]!)) (parts.map fun (i,x)=>(i,a.eval x)).toList=some cells)
 (h:wpList P ops Q rest (a.put o.dst (.slice (some ⟨w.heap.size,0,none⟩) len len)) (w.alloc (.cells cells e))):
 wpList P ops Q (o::rest) a w:=by
 obtain ⟨i,hi,hz,hs,hbt⟩:=info_parts E.hi;refine wpList_plain hgd fun K hK=>?_
 unfold Oper.wp execOp;have hsz:z.cells.size=1:=E.zs;have hrun:(Instr.buildSlice t len (parts.map fun (i,x)=>(i,a.eval x))).run P w=.ok (.slice (some ⟨w.heap.size,0,none⟩) len len) (w.alloc (.cells cells e)):=by
  have h1:¬ (len>16777216):=by omega
  have h2:¬ (len=0):=by omega
  have hfill':Instr.fill (fun i=>some (i,1)) ((Array.range len).map (#[z][·%1]!)) (parts.map fun (i,x)=>(i,a.eval x)).toList=some cells:=by simpa using hfill
  simp [Instr.buildSlice,run_underlying E.ht,sizeOf,typeInfo,hi,hs,h1,h2,zeroValue,hz,hz1] at hfill' ⊢;simp [hfill',newRow]
 simp only [ho,Sem.run_bind,hrun,Result.andThen_ok];exact hK _ _ h
theorem zh {p:Prop} (h:p):Hid p:=Lib.hid h
theorem zpt:(∀(a:Act) (d:Tmp) (v:Value),a.put (some d) v={a with tmps:=a.tmps.setIfInBounds d v})∧(∀(a:Act) (v:Value),a.put none v=a)∧(∀(l:List Value) (i:Nat) (v:Value),l.toArray.setIfInBounds i v=(l.set i v).toArray)∧(∀(x v:Value) (l:List Value),(x::l).set 0 v=v::l)∧∀(x v:Value) (l:List Value) (i:Nat),(x::l).set (i+1) v=x::l.set i v:=⟨fun _ _ _=>rfl,fun _ _=>rfl,fun _ _ _=>by simp,fun _ _ _=>rfl,fun _ _ _ _=>rfl⟩
end Go.Proofs.YtcppbdlmcbjmeaaGreatDoor
namespace Go.Proofs.YtcppbdlmcbjmeaaGreatDoor
def spot (pw x y w i:Nat):Nat:=(y+i/w)*pw+x+i%w
end Go.Proofs.YtcppbdlmcbjmeaaGreatDoor
