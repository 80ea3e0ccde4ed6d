/- Lemmas that the law needs, part 45. -/
import Derived.Test.YtcppbdlmcbjmeaaGreatDoorJ44
import Derived.Great.BuildSlice
set_option maxHeartbeats 6400000
set_option maxRecDepth 100000
namespace Go.Proofs.YtcppbdlmcbjmeaaGreatDoor
open Go.RowKit
def zBJ:Nat→List (Array Value)→List (Nat×Value)
 |_,[]=>[]
 |k,A::As=>(k,.agg A)::zBJ (k+1) As
theorem zHQ {f:Nat→Option (Nat×Nat)} {n:Nat} (hf:∀ i,f i=some (i*n,n)):∀ (As:List (Array Value)) (k:Nat) (Z:Array Value) (D:List Value),(∀ A∈As,A.size=n)→D.length=k*n→Z.size=(k+As.length)*n→(∀ i,i<k*n→Z[i]? =D[i]?)→
 Instr.fill f Z (zBJ k As)=some (D++As.flatMap Array.toList).toArray
 |[],k,Z,D,_,hD,hZ,hi=>by
  unfold zBJ Instr.fill
  congr 1
  apply Array.ext_getElem?
  intro i;rw [List.flatMap_nil,List.append_nil,show D.toArray[i]? =D[i]? by simp];simp only [List.length_nil,Nat.add_zero] at hZ
  by_cases h:i<k*n
  ·exact hi i h
  ·rw [Array.getElem?_eq_none (by omega),List.getElem?_eq_none (by omega)]
 |A::As,k,Z,D,hA,hD,hZ,hi=>by
  have ha:=hA A (by simp);have hl:A.toList.length=n:=by simpa using ha
  have e:(k+(A::As).length)*n=k*n+(n+As.length*n):=by rw [List.length_cons,Nat.add_mul,Nat.add_mul,Nat.one_mul];omega
  have e1:(k+1)*n=k*n+n:=by rw [Nat.add_mul,Nat.one_mul]
  have e2:(k+1+As.length)*n=k*n+(n+As.length*n):=by rw [Nat.add_mul,Nat.add_mul,Nat.one_mul];omega
  have hsz:∀ (l:List (Value×Nat)) (W:Array Value),(l.foldl (fun cs x=>cs.setIfInBounds (k*n+x.2) x.1) W).size=W.size:=by
   intro l
   induction l with
   |nil=>intro W;rfl
   |cons x l ih=>intro W;rw [List.foldl_cons,ih];simp
  unfold zBJ Instr.fill;rw [hf]
  show (if A.size≠n||k*n+A.size>Z.size then none else Instr.fill f (A.zipIdx.foldl (fun cs x=>cs.setIfInBounds (k*n+x.2) x.1) Z) (zBJ (k+1) As))=_
  rw [if_neg (by simp;omega),←Array.foldl_toList,Array.toList_zipIdx,zHQ hf As (k+1) _ (D++A.toList) (fun B hB=>hA B (by simp [hB])) (by rw [List.length_append];omega) (by rw [hsz];omega) (fun i h=>?_)]
  ·rw [List.flatMap_cons,List.append_assoc]
  ·rw [zGk (k*n) A.toList 0 Z i (by omega)]
   by_cases h1:i<k*n
   ·rw [if_neg (by omega),hi i h1,List.getElem?_append_left (by omega)]
   ·rw [if_pos (by omega),List.getElem?_append_right (by omega),hD,Nat.add_zero]
theorem zGF {P:Program} {w:World} {ops:Array Oper} {rest:List Oper} {o:Oper} {a:Act} {Q:Exit→Act→World→Prop} (hg:o.guard=none) (t:TypeId) (len:Nat) (parts:Array (Nat×Operand)) (ho:o.op=.buildSlice t len parts) {e:TypeId} {zv:Value} {size bytes:Nat} (E:Elt P t e zv size bytes) (As:List (Array Value))
 (hp:(parts.map fun (i,x)=>(i,a.eval x)).toList=zBJ 0 As) (hl:As.length=len) (h1:1≤len∧len≤100) (hsz:size≤1000) (hA:∀ A∈As,A.size=size)
 (h:wpList P ops Q rest (a.put o.dst (.slice (some ⟨w.heap.size,0,none⟩) len len)) (w.alloc (.cells (As.flatMap Array.toList).toArray e))):wpList P ops Q (o::rest) a w:=by
 obtain ⟨i,hi,hzv,hs,hbt⟩:=info_parts E.hi;have hpos:=E.pos;have hm:len*size≤100*1000:=Nat.mul_le_mul h1.2 hsz;have hn:0<len*size:=Nat.mul_pos h1.1 hpos;refine wpList_buildSlice hg t e len _ ho _ i zv E.ht hi hzv (by rw [hs];omega) (by rw [hs];omega) ?_ h;rw [hp,hs];exact zHQ (fun i=>rfl) As 0 _ [] hA (by simp) (by simp [hl]) (fun i h=>absurd h (by omega))
def mvQ (x y:Int):Nat→Int:=fun i=>if i=2 then -1 else if i=3 then x else if i=4 then y else 0
def mvY (k x y:Int):Nat→Int:=fun j=>if j=0 then k else if 20≤j∧j<48 then (if k=4 then mvQ x y ((j-20)%7) else 0) else 0
def mvM (k x y:Int):MbN:=⟨mvY k x y,fun _=>0⟩
def mvS:Sl:=⟨0,0,2,1,0,false⟩
theorem zLP {k x y:Int} {j:Nat} (h:j≠0∧(j<20∨48≤j)):mvY k x y j=0:=by
 unfold mvY;rw [if_neg h.1,if_neg (by omega)]
theorem zEa {x y:Int} {i:Nat} (h:i<28):mvY 4 x y (20+i)=mvQ x y (i%7):=by
 unfold mvY;rw [if_neg (by omega),if_pos (by omega),if_pos rfl,show 20+i-20=i by omega]
theorem zMt {k x y:Int} (hk:k=3∨k=4):zAB (mvY k x y) 0 0:=by
 have h0:mvY k x y 0=k:=rfl;have hz:∀ {j},j≠0∧(j<20∨48≤j)→mvY k x y j=0:=fun h=>zLP h
 refine ⟨.inl ⟨by rw [h0];exact hk,.inl rfl⟩,⟨.inr (zAh.2 fun i hi=>hz (by omega)),.inr (.inr (hz (by omega))),.inr (hz (by omega)),.inr (hz (by omega)),.inr rfl⟩,?_,?_,fun e=>by rw [h0] at e;omega,fun e=>by rw [h0] at e;omega,fun e=>by rw [h0] at e;omega,fun _=>hz (by omega)⟩
 ·unfold zL5;rw [h0,hz (j:=48) (by omega),hz (j:=49) (by omega),if_neg (by rcases hk with rfl|rfl<;>decide)]
 ·refine (zJ (L:=0) (G:=0) (by decide) (by decide) (by rw [hz (j:=48) (by omega)];rfl)).2 ⟨fun e=>by rw [h0] at e;omega,fun b hb=>?_,fun k hk=>?_⟩
  ·have h:∀ i,i<16→mvY k x y (50+b*16+i)=0:=fun i hi=>hz (by omega)
   refine ⟨fun _=>h,fun _=>h 0 (by decide),fun i hi=>?_⟩;rw [h i hi];decide
  ·refine ⟨fun _ i hi=>hz (by omega),fun _ i hi=>hz (by omega),fun i hi=>?_⟩;rw [hz (by omega)];decide
theorem zMA {k x y:Int} (hk:k=3∨k=4) (hx:-256≤x∧x≤256) (hy:-256≤y∧y≤256):(mvM k x y).ok mvS where
 ty:=.inl rfl
 body:=by
  have h0:(mvM k x y).y 0=k:=rfl;rw [h0,if_neg (by omega)];exact zMt hk
 parts:=fun h i hi=>by
  have h3:k≠4:=h
  show mvY k x y (20+i)=0
  unfold mvY;rw [if_neg (by omega),if_pos (by omega),if_neg h3]
 inter:=fun h=>by
  obtain rfl:k=4:=h;have hp:∀ p j,p<4→j<7→(mvM 4 x y).y (20+(7*p+j))=mvQ x y j:=fun p j hp hj=>(zEa (by omega)).trans (by rw [show (7*p+j)%7=j by omega])
  have h0:∀ p,p<4→(mvM 4 x y).y (20+7*p)=0:=fun p h=>hp p 0 h (by decide)
  have hs:(mvM 4 x y).y 1=0:=rfl;refine ⟨by rw [hs];decide,fun p j h1 h2=>?_,fun p h=> .inr ⟨⟨by rw [h0 p h];decide,fun l hl hh=>?_,fun l hl hh=>?_,fun l hl=>?_⟩,fun _=>h0 p h⟩⟩
  ·rw [hs];dsimp only;rw [hp p j h1 h2,show zE8 0 p=0 from rfl,hp 0 j (by decide) h2]
  ·rw [h0 p h] at hh;obtain rfl|rfl:l=0∨l=1:=by omega
   ·cases hh
   ·exact ⟨hp p 2 h (by decide),hp p 5 h (by decide),hp p 6 h (by decide)⟩
  ·rw [h0 p h] at hh;obtain rfl|rfl:l=0∨l=1:=by omega
   ·rw [hp p (1+0) h (by decide)];exact (show (0:Int)≤0∧(0:Int)≤1-1 by decide)
   ·cases hh
  ·rw [hp p (3+2*l) h (by omega),hp p (4+2*l) h (by omega)];obtain rfl|rfl:l=0∨l=1:=by omega
   ·exact ⟨hx,hy⟩
   ·exact (show ((-256:Int)≤0∧(0:Int)≤256)∧(-256:Int)≤0∧(0:Int)≤256 by decide)
 pcm:=fun _ _=>(show (0:Int)≤0∧(0:Int)≤255 by decide)
def zHf (x y:Int):List MbN:=[mvM 4 x y,mvM 4 x y,mvM 4 x y,mvM 3 x y,mvM 4 x y]
theorem zLO (x y:Int):zHt (zFI mvS [mvM 4 x y,mvM 4 x y,mvM 4 x y]) 0 2 3=mvQ x y:=by
 have hA:nbA (zFI mvS [mvM 4 x y,mvM 4 x y,mvM 4 x y]) 0 2 3 (zOf 3) 0 0=(0,x,y):=by kernel_rfl
 have hB:nbB (zFI mvS [mvM 4 x y,mvM 4 x y,mvM 4 x y]) 0 2 3 (zOf 3) 0 0=(0,x,y):=by kernel_rfl
 have hC:nbC (zFI mvS [mvM 4 x y,mvM 4 x y,mvM 4 x y]) 0 2 3 (zOf 3) 0 0 2=(0,x,y):=by kernel_rfl
 have hm:∀ a:Int,zBI 0 0 0 a a a 0 (-1)=a:=fun a=>by
  show zMB a a a=a
  unfold zMB;omega
 have hv:zHr (0,x,y) (0,x,y) (0,x,y)=(x,y):=by
  unfold zHr;dsimp only;rw [hm x,hm y];unfold zBq
  split
  ·rename_i h;have h':x=0∧y=0:=by simpa [Zc] using h
   rw [h'.1,h'.2]
  ·rfl
 unfold zHt;rw [hA,hB,hC,hv]
 rfl
theorem zNa (x y:Int) (n:Nat) (m:MbN) (h:(zHf x y)[n]? =some m) (i:Nat) (hi:i<28):mvS.out (zFI mvS ((zHf x y).take n)) m.y (20+i)=mvQ x y (i%7):=by
 have h4:∀ ds:List DoneP,mvS.out ds (mvM 4 x y).y (20+i)=mvQ x y (i%7):=fun ds=>by
  unfold Sl.out Sl.parts;rw [if_pos (by omega),if_pos (show (mvM 4 x y).y 0=4 from rfl),show 20+i-20=i by omega];unfold Sl.G gOf;rw [if_neg (by
   rw [show (mvM 4 x y).y (20+7*(i/7))=mvQ x y (7*(i/7)%7) from zEa (by omega),show 7*(i/7)%7=0 by omega];exact (show (0:Int)≠3 by decide))]
  exact zEa hi
 match n,h with
 |0,h=>obtain rfl:=Option.some.inj h;exact h4 _
 |1,h=>obtain rfl:=Option.some.inj h;exact h4 _
 |2,h=>obtain rfl:=Option.some.inj h;exact h4 _
 |4,h=>obtain rfl:=Option.some.inj h;exact h4 _
 |3,h=>
  obtain rfl:=Option.some.inj h;unfold Sl.out Sl.parts;rw [if_pos (by omega),if_neg (show (mvM 3 x y).y 0≠4 from (show (3:Int)≠4 by decide)),if_pos (show (mvM 3 x y).y 0=5∨(mvM 3 x y).y 0=3 from .inr rfl),show 20+i-20=i by omega];exact congrFun (zLO x y) (i%7)
def hdV:Nat→Value:=fun j=>if j=1 then .int .i64 5 else if j=2 then .int .i64 0 else if j=17 then .int .i64 30 else if j=7 then .int .i64 1 else if j=6∨j=15∨j=18 then .bool false else if j=9∨j=10∨j=13∨j=14∨j=16 then .slice none 0 0 else .int .i64 0
theorem zNk:zCy hdV (0:Nat) 5 0 1 0 30:=⟨rfl,rfl,rfl,rfl,rfl,rfl⟩
theorem zKo:Tryz.prog.built 26 [(1,.int .i64 5),(2,.int .i64 0),(17,.int .i64 30),(7,.int .i64 1)]=some (hdL hdV).toArray:=by kernel_rfl
theorem zMz:(hdL hdV).toArray.all (·.oneCell')=true:=by kernel_rfl
def p28 (x y:Int):Array Value:=((List.range 28).map fun i=>Value.int .i64 (mvQ x y (i%7))).toArray
theorem zKn (x y:Int):Tryz.prog.built 51 [(0,.int .i64 4),(5,.agg (p28 x y))]=some (fnA 483 (mbV (mvY 4 x y))):=by kernel_rfl
theorem zKm (x y:Int):Tryz.prog.built 46 [(0,zBd (mvQ x y)),(1,zBd (mvQ x y)),(2,zBd (mvQ x y)),(3,zBd (mvQ x y))]=some (p28 x y):=by kernel_rfl
theorem zKl (x y:Int):Tryz.prog.built 51 [(0,.int .i64 3)]=some (fnA 483 (mbV (mvY 3 x y))):=by kernel_rfl
theorem walk_moves {a0 a1:Int} {cb:Bool} {w:World} (hA:Asc w):Calls Tryz.prog 4 #[.int .i64 a0,.int .i64 a1,.bool cb] w fun e w'=>e=.returned (.bool true)∧Only [] w w':=by
 have HAW:=zh (zIq hA);have HA:=zh hA;clear hA
 go_enter Tryz.func4,Tryz.ntmps4
 go_wp2_with fail
 refine HAW.out.mono ?_;rintro e w1 ⟨rfl,o1⟩;have O1:=zh o1;have HA1:=zh (HA.out.only o1 (by simp));clear o1 HA HAW
 go_wp2_with (refine zu 21 rfl ?_)
 refine ⟨?_⟩;have ht:∀ a:Int,-256≤a.tmod 257∧a.tmod 257≤256:=fun a=>by
  have h1:=Int.tmod_lt_of_pos a (show (0:Int)<257 by decide);have h2:=Int.tmod_lt_of_pos (-a) (show (0:Int)<257 by decide);rw [Int.neg_tmod] at h2;omega
 have hx:=ht a0;have hy:=ht a1;generalize a0.tmod 257=x at*;generalize a1.tmod 257=y at*;have Hx:=zh hx;have Hy:=zh hy;clear hx hy ht;obtain ⟨HL,hHL⟩:∃ HL,HL=hdL hdV:=⟨_,rfl⟩;obtain ⟨PL,hPL⟩:∃ PL,PL=zMj cb:=⟨_,rfl⟩;have Hthere:Hid (∀ wx g cap,Asc wx→MbsAt wx g (zHf x y)→Calls Tryz.prog 22 #[.agg HL.toArray,.agg PL.toArray,.int .i64 2,.slice (some ⟨g,0,none⟩) 5 cap] wx (zNy mvS wx (zHf x y))):=zh (fun wx g cap h1x h2x=>by
  rw [hHL,hPL];exact zKH (s:=mvS) (cabac:=cb) (qp:=30) h1x (by show _=some 9;kernel_rfl) rfl zNk rfl rfl rfl (by decide) (by decide) (by decide) (by decide) (by decide) rfl (show 1≤5 by decide) (show 5≤20 by decide) (fun m hm=>by
   have:m=mvM 4 x y∨m=mvM 3 x y:=by
    unfold zHf at hm;simp only [List.mem_cons,List.not_mem_nil,or_false] at hm
    rcases hm with h|h|h|h|h<;>simp [h]
   rcases this with rfl|rfl
   ·exact zMA (.inr rfl) Hx.out Hy.out
   ·exact zMA (.inl rfl) Hx.out Hy.out) rfl h2x)
 have hHb:=zKo;have h1H:=zMz;have hPb:=zJR cb;have h1P:=zGZ cb;rw [←hHL] at hHb h1H;rw [←hPL] at hPb h1P;have HHi:=zh (show (Tryz.prog.info? 26).map (·.size)=some HL.length by rw [hHL];show _=some 21;kernel_rfl);have HHj:=zh (show (Tryz.prog.info? 26).map (·.size)=some HL.toArray.size by rw [List.size_toArray];exact HHi.out);have HZ:=zh (show HL.toArray.size=21 by rw [List.size_toArray,hHL];rfl);have HPi:=zh (show (Tryz.prog.info? 28).map (·.size)=some PL.length by rw [hPL];show _=some 9;kernel_rfl);have HPj:=zh (show (Tryz.prog.info? 28).map (·.size)=some PL.toArray.size by rw [List.size_toArray];exact HPi.out);have HPz:=zh (show PL.toArray.size=9 by rw [List.size_toArray,hPL];rfl);have H1H:=zh h1H;have H1P:=zh h1P;have HHb:=zh hHb;have HPb:=zh hPb;clear hHL hPL hHb hPb h1H h1P;have oV:Hid (Only [] w (w1.alloc (.cells #[.int .i64 x,.int .i64 y] 42))):=zh (O1.out.alloc _)
 have hV:=ZA w1 (.cells #[.int .i64 x,.int .i64 y] 42);have hAV:=zh (HA1.out.only ((Only.refl [] w1).alloc (.cells #[.int .i64 x,.int .i64 y] 42)) (by simp));obtain ⟨vb0,hvb⟩:∃ b,b=w1.heap.size:=⟨_,rfl⟩
 go_wp2_with (refine zu 22 rfl ?_)
 refine ⟨?_⟩;rw [←hvb] at hV ⊢;generalize w1.alloc (.cells #[.int .i64 x,.int .i64 y] 42)=w2 at*;have HV:=zh hV;clear hV hvb
 go_wp2_with (first
  |(refine zn rfl 26 _ rfl HL.toArray (Eq.trans (by kernel_rfl) HHb.out) ?_)
  |(refine ZN rfl 26 _ _ rfl w2.heap.size HL.toArray rfl rfl (ZA w2 _) HHj.out (Eq.trans rfl HZ.out.symm) H1H.out ?_))
 intro w3 hw3 ho3;have O3:Hid (Only [] w2 w3):=zh (((Only.refl [] w2).alloc _).trans' ho3 (fun i hi=> .inr (by simp at hi;omega)));obtain ⟨hb,hhb⟩:∃ b,b=w2.heap.size:=⟨_,rfl⟩;rw [←hhb] at hw3 ⊢;have HW3:=zh hw3;clear hw3 ho3 hhb
 go_wp2_with (first
  |(refine zn rfl 28 _ rfl PL.toArray (Eq.trans (by kernel_rfl) HPb.out) ?_)
  |(refine ZN rfl 28 _ _ rfl w3.heap.size PL.toArray rfl rfl (ZA w3 _) HPj.out (Eq.trans rfl HPz.out.symm) H1P.out ?_))
 intro w4 hw4 ho4;have o34:Only [] w3 w4:=((Only.refl [] w3).alloc _).trans' ho4 (fun i hi=> .inr (by simp at hi;omega));have O4:Hid (Only [] w2 w4):=zh (O3.out.trans o34);obtain ⟨pb,hpb⟩:∃ b,b=w3.heap.size:=⟨_,rfl⟩;have HW34:=zh (o34.heap HW3.out (by simp));rw [←hpb] at hw4 ⊢;have HW4:=zh hw4;have hV4:=O4.out.heap HV.out (by simp);clear hw4 ho4 hpb HW3 o34;have cv0:=zA hV4 0;have HRv:=zh (Zu hV4);have HIv:=zh (show (Tryz.prog.info? 42).map (·.size)=some ([.int .i64 x,.int .i64 y]:List Value).length by show _=some 2;kernel_rfl);clear cv0 hV4
 go_wp2_with (first
  |(with_reducible refine wpList_load_mid rfl 42 _ rfl vb0 0 rfl _ _ HRv.out Tryz.underlying42 rfl HIv.out ?_)
  |refine zu 30 rfl ?_)
 refine ⟨?_⟩;have hP5:=ZA w4 (.cells #[.int .i64 0,.int .i64 0,.int .i64 (-1),.int .i64 x,.int .i64 y,.int .i64 0,.int .i64 0] 45);have O5:Hid (Only [] w2 (w4.alloc (.cells #[.int .i64 0,.int .i64 0,.int .i64 (-1),.int .i64 x,.int .i64 y,.int .i64 0,.int .i64 0] 45))):=zh (O4.out.alloc _);have O45:Hid (Only [] w4 (w4.alloc (.cells #[.int .i64 0,.int .i64 0,.int .i64 (-1),.int .i64 x,.int .i64 y,.int .i64 0,.int .i64 0] 45))):=zh ((Only.refl [] w4).alloc _);generalize w4.alloc (.cells #[.int .i64 0,.int .i64 0,.int .i64 (-1),.int .i64 x,.int .i64 y,.int .i64 0,.int .i64 0] 45)=w5 at*;generalize w4.heap.size=qb at*;have HRp:=zh (Zu hP5);have HIp:=zh (show (Tryz.prog.info? 45).map (·.size)=some ([.int .i64 0,.int .i64 0,.int .i64 (-1),.int .i64 x,.int .i64 y,.int .i64 0,.int .i64 0]:List Value).length by show _=some 7;kernel_rfl);obtain ⟨PA,hPA⟩:∃ PA,PA=p28 x y:=⟨_,rfl⟩
 obtain ⟨XL,hXL⟩:∃ XL,XL=(fnA 483 (mbV (mvY 4 x y))).toList:=⟨_,rfl⟩;have eX:fnA 483 (mbV (mvY 4 x y))=XL.toArray:=by rw [hXL,zw]
 have hb1:=zKm x y;have hb2:=zKn x y;have hX1:=zJ6 (mvY 4 x y);rw [eX] at hb2 hX1;rw [←hPA] at hb1 hb2;have HB1:=zh hb1;have HB2:=zh hb2;have HX1:=zh hX1;have HXi:=zh (show (Tryz.prog.info? 51).map (·.size)=some XL.length by rw [hXL,ZH];kernel_rfl);have HXj:=zh (show (Tryz.prog.info? 51).map (·.size)=some XL.toArray.size by rw [List.size_toArray];exact HXi.out);have HXz:=zh ((show Tryz.zeroCells51.size=483 by kernel_rfl).trans (show XL.toArray.size=483 by rw [List.size_toArray,hXL,ZH]).symm);have HXL:=zh hXL;have HPA:=zh hPA;clear hP5 hPA hXL eX hb1 hb2 hX1
 go_wp2_with (first
  |(with_reducible refine wpList_load_mid rfl 45 _ rfl qb 0 rfl _ _ HRp.out Tryz.underlying45 rfl HIp.out ?_)
  |(refine zn rfl 46 _ rfl PA (Eq.trans (by kernel_rfl) HB1.out) ?_)
  |(refine zn rfl 51 _ rfl XL.toArray (Eq.trans (by kernel_rfl) HB2.out) ?_)
  |(refine ZN rfl 51 _ _ rfl w5.heap.size XL.toArray rfl rfl (ZA w5 _) HXj.out HXz.out HX1.out ?_))
 intro w6 hw6 ho6;have o56:Only [] w5 w6:=((Only.refl [] w5).alloc _).trans' ho6 (fun i hi=> .inr (by simp at hi;omega));have O6:Hid (Only [] w2 w6):=zh (O5.out.trans o56);obtain ⟨mb,hmb⟩:∃ b,b=w5.heap.size:=⟨_,rfl⟩;rw [←hmb] at hw6 ⊢;have HrH:Hid (w6.rangeAt hb 0 HL):=zh (Zu (o56.heap (O45.out.heap HW34.out (by simp)) (by simp)));have HrP:Hid (w6.rangeAt pb 0 PL):=zh (Zu (o56.heap (O45.out.heap HW4.out (by simp)) (by simp)));have HrX:Hid (w6.rangeAt mb 0 XL):=zh (Zu hw6);clear hw6 ho6 o56 hmb HRp HIp HB1 HB2 HXj HXz HX1 HW34 HW4 HRv HIv HV O45 O5;obtain ⟨SL,hSL⟩:∃ SL,SL=(fnA 483 (mbV (mvY 3 x y))).toList:=⟨_,rfl⟩;have hb3:=zKl x y;rw [show fnA 483 (mbV (mvY 3 x y))=SL.toArray by rw [hSL,zw]] at hb3;have HB3:=zh hb3;have HSL:=zh hSL;have hls:XL.toArray.size=483∧SL.toArray.size=483:=by
  rw [List.size_toArray,List.size_toArray,HXL.out,hSL,ZH,ZH];exact ⟨rfl,rfl⟩
 have Hls:=zh hls;clear hb3 hSL hls
 go_wp2_with (first
  |(with_reducible refine wpList_load_mid rfl 26 _ rfl hb 0 rfl HL _ HrH.out Tryz.underlying26 rfl HHi.out ?_)
  |(with_reducible refine wpList_load_mid rfl 28 _ rfl pb 0 rfl PL _ HrP.out Tryz.underlying28 rfl HPi.out ?_)
  |(with_reducible refine wpList_load_mid rfl 51 _ rfl mb 0 rfl XL _ HrX.out Tryz.underlying51 rfl HXi.out ?_)
  |(refine zn rfl 51 _ rfl SL.toArray (Eq.trans (by kernel_rfl) HB3.out) ?_)
  |refine zu 44 rfl ?_)
 refine ⟨?_⟩;refine zGF rfl 29 5 _ rfl zNA [XL.toArray,XL.toArray,XL.toArray,SL.toArray,XL.toArray] (by simp [Act.eval,zBJ]) rfl (by decide) (by decide) (by simp only [List.mem_cons,List.not_mem_nil,or_false];rintro A (h|h|h|h|h)<;>rw [h]<;>first|exact Hls.out.1|exact Hls.out.2) ?_;have hmA:([XL.toArray,XL.toArray,XL.toArray,SL.toArray,XL.toArray].flatMap Array.toList)=zFh ((zHf x y).map fun m=>mbV m.y):=by
  rw [HXL.out,HSL.out]
  rfl
 rw [hmA];have hR7:=ZA w6 (.cells (zFh ((zHf x y).map fun m=>mbV m.y)).toArray 51);have HM7:Hid (MbsAt (w6.alloc (.cells (zFh ((zHf x y).map fun m=>mbV m.y)).toArray 51)) w6.heap.size (zHf x y)):=zh ⟨fun n m hm=>⟨mbV m.y,fun j v hj=>by
  have hj2:j<483:=by
   apply Classical.byContradiction
   intro e;rw [List.getElem?_eq_none (by rw [ZH];omega)] at hj
   cases hj
  rw [zA hR7];have:=zH5 ((zHf x y).map fun m=>mbV m.y) n j (mbV m.y) (by rw [List.getElem?_map,hm];rfl) hj2;rw [hj] at this
  simpa using this,zNc (by
  have:m=mvM 4 x y∨m=mvM 3 x y:=by
   have hm2:=List.mem_of_getElem? hm;unfold zHf at hm2;simp only [List.mem_cons,List.not_mem_nil,or_false] at hm2
   rcases hm2 with h|h|h|h|h<;>simp [h]
  rcases this with rfl|rfl
  ·exact (show (4:Int)≠2 by decide)
  ·exact (show (3:Int)≠2 by decide))⟩⟩
 have O7:Hid (Only [] w2 (w6.alloc (.cells (zFh ((zHf x y).map fun m=>mbV m.y)).toArray 51))):=zh (O6.out.alloc _);have O67:Hid (Only [] w6 (w6.alloc (.cells (zFh ((zHf x y).map fun m=>mbV m.y)).toArray 51))):=zh ((Only.refl [] w6).alloc _);generalize w6.alloc (.cells (zFh ((zHf x y).map fun m=>mbV m.y)).toArray 51)=w7 at*;generalize w6.heap.size=gb at*;have Hgo:=zh (Hthere.out w7 gb 5 (hAV.out.only O7.out (by simp)) HM7.out);clear hmA hR7 HM7 Hthere HrH HrP HB3 HSL Hls
 go_wp2_with fail
 refine Hgo.out.mono ?_;rintro e w8 ⟨v8,Xs,rfl,o8,own8,len8,mb8⟩;have hl5:(zHf x y).length=5:=rfl;rw [hl5] at own8 len8;obtain ⟨gx,capx,rfl,-,hgx⟩:=zJp own8 (by decide);have Own8:=zh own8;have Len8:=zh len8;have Mb8:=zh mb8;have O8:Hid (Only [] w6 w8):=zh (O67.out.trans o8);have O8w:Hid (Only [] w w8):=zh ((oV.out.trans O7.out).trans o8);obtain ⟨MM,hMM⟩:∃ MM,MM=csV (mvY 4 x y) 20 28:=⟨_,rfl⟩;have HMM:=zh hMM;have IM:=zh (show (Tryz.prog.info? 46).map (·.size)=some MM.length by rw [hMM,zCA];kernel_rfl);have qe:∀ wx,(Op.equalIn 10000 46 (.agg MM.toArray) (.agg MM.toArray)).run Tryz.prog wx=.ok true wx:=fun wx=>by rw [hMM];exact zHR (mvY 4 x y) 20 wx
 clear own8 len8 mb8 o8 Hgo hl5 hMM;go_wp2
 go_loopw [14] (fun q wl=>∃ j:Nat,j≤5∧q=.int .i64 (j:Int)∧Hid (Only [] w8 wl)) (fun q _=>((5:Int)-intOf q).toNat)
 case atStart=>exact ⟨0,Nat.zero_le _,rfl,zh (Only.refl _ _)⟩
 case round=>
  obtain ⟨j,hj,rfl,Hl⟩:=hrel
  by_cases hj5:j<5
  ·obtain ⟨m,hm⟩:∃ m,(zHf x y)[j]? =some m:=⟨_,List.getElem?_eq_getElem (show j<5 from hj5)⟩;obtain ⟨Xf,hXf⟩:∃ Xf,Xs[j]? =some Xf:=⟨_,List.getElem?_eq_getElem (show j<Xs.length by rw [Len8.out];exact hj5)⟩;have hmo:=Mb8.out j m Xf hm hXf;have r1:=zJq Own8.out hXf;have R1:Hid (wr.rangeAt gx (j*483+20) MM):=zh (fun a u hu=>by
    have ha:a<28:=by
     apply Classical.byContradiction
     intro e;rw [HMM.out,List.getElem?_eq_none (by rw [zCA];omega)] at hu
     cases hu
    rw [HMM.out,zF9 _ 20 28 a ha,zEa ha,←zNa x y j m hm a ha] at hu;rw [Nat.add_assoc];exact Hl.out.cell (r1 (20+a) u (by rw [←hu];simp [fnA,show 20+a<483 by omega,hmo.cell (20+a) (by omega)])) (by simp))
   have R2:Hid (wr.rangeAt mb 20 MM):=zh (fun a u hu=>by
    have ha:a<28:=by
     apply Classical.byContradiction
     intro e;rw [HMM.out,List.getElem?_eq_none (by rw [zCA];omega)] at hu
     cases hu
    rw [HMM.out,zF9 _ 20 28 a ha] at hu;have h:=Hl.out.cell (O8.out.cell (HrX.out (20+a) u (by rw [←hu,HXL.out];simp [fnA,show 20+a<483 by omega,zJ7 (y:=mvY 4 x y) (show 20+a<482 by omega)])) (by simp)) (by simp)
    rwa [Nat.zero_add] at h)
   clear hm hXf hmo r1
   go_wp2_with fail
   refine zH (by kernel_rfl) (fun w'=>w'.rangeAt gx (j*483+20) MM∧w'.rangeAt mb 20 MM) 7 ?_;have hS0:(fun w':World=>w'.rangeAt gx (j*483+20) MM∧w'.rangeAt mb 20 MM) wr.drew:=⟨R1.out,R2.out⟩;refine AnyL.tk 0 (h:=?_);refine AnyL.tk 1 (h:=?_);refine AnyL.tk 2 (h:=?_);refine AnyL.tk 3 (h:=?_);refine AnyL.tl 4 rfl (yieldsIf_load_mid (by rfl) _ _ rfl gx (j*483+20) rfl MM _ (fun w' h=>h.1) Tryz.underlying46 rfl IM.out) ?_;refine AnyL.tk 5 (h:=?_);refine AnyL.tl 6 rfl (yieldsIf_load_mid (by rfl) _ _ rfl mb 20 rfl MM _ (fun w' h=>h.2) Tryz.underlying46 rfl IM.out) ?_;refine AnyL.on 7 (h:=fun K hK=>?_);go_simp;refine hK _ _ (fun _=>hS0) (fun hKq=>?_);clear hK K hKq
   try simp only [zpt]
   refine AnyL.dn (h:=?_);have O9:Hid (Only [] w8 wr.drew):=zh Hl.out.drew;clear R1 R2 hS0;generalize wr.drew=wd at*;go_wp2;exact ⟨⟨j+1,by omega,rfl,O9⟩,by simp [intOf];omega⟩
  ·have hO:=zh (O8w.out.trans Hl.out);go_wp2;go_ret;exact ⟨rfl,hO.out⟩
end Go.Proofs.YtcppbdlmcbjmeaaGreatDoor
