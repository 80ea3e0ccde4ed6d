/- Lemmas that the law needs, part 13. -/
import Derived.Test.YtcppbdlmcbjmeaaGreatDoorK12
set_option maxHeartbeats 3200000
set_option maxRecDepth 100000
namespace Go.Proofs.YtcppbdlmcbjmeaaGreatDoor
open Go.RowKit
theorem zMO {sb f wide n:Nat} {S:Nat→Value} {ds:List DoneP} {z:Nat→Int} {w:World} (h:MotIn w sb S f wide n ds z) (list:Nat) (hl:list<2) (x y:Int) (hb:y.toNat/2*wide+x.toNat/2≤100000000) (hx:x≤1000000000) (hy:y≤1000000000):
 Calls Tryz.prog 172 #[.pointer (some ⟨sb,0,none⟩),.int .i64 x,.int .i64 y,.int .i64 list] w fun e w'=>e=.returned (zLw (zBd ds f wide n z list x y))∧Only [] w w':=by
 unfold zBd
 by_cases h0:x<0∨y<0
 ·rw [if_pos h0];exact zHm h0
 ·rw [if_neg h0];have:=zIv h list hl x.toNat y.toNat hb (by omega) (by omega)
  rwa [show ((x.toNat:Nat):Int)=x by omega,show ((y.toNat:Nat):Int)=y by omega] at this
theorem ZT {w:World} {b i:Nat} {cs:Array Value} {T:TypeId} {f:Nat×Nat} {v:Value} (h:w.heap[b]? =some (.cells cs T f)) (hv:cs[i]? =some v):w.setCell ⟨b,i,none⟩ v=w:=by
 have hlt:i<cs.size:=(Array.getElem?_eq_some_iff.1 hv).1;have hcs:cs.setIfInBounds i v=cs:=by
  apply Array.ext_getElem?
  intro j;rw [Array.getElem?_setIfInBounds]
  by_cases hj:i=j
  ·subst hj;rw [if_pos rfl,if_pos hlt,hv]
  ·rw [if_neg hj]
 have hh:(w.setCell ⟨b,i,none⟩ v).heap=w.heap:=by
  apply Array.ext_getElem?
  intro j
  by_cases hj:b=j
  ·subst hj;rw [zB v h,h,hcs]
  ·simp only [World.setCell,Array.getElem?_modify,if_neg hj]
 have h2:w.setCell ⟨b,i,none⟩ v={ w with heap:=(w.setCell ⟨b,i,none⟩ v).heap }:=rfl;rw [h2,hh]
theorem zJr {P:Program} {fn:Func} {p q:Tmp} {t1 t2:TypeId} {post:Ending→World→Prop} {a:Act} {w:World} (h:fn.results=#[.cell p t1,.cell q t2]) (g1 g2:Nat) {u1 u2:TypeId} {c1 c2:Array Value} {d1 d2:TypeDesc}
 (hp:a.tmps.getD p undef=.pointer (some ⟨g1,0,none⟩)) (hq:a.tmps.getD q undef=.pointer (some ⟨g2,0,none⟩)) (hg1:w.heap[g1]? =some (.cells c1 u1 (0,0))) (hg2:w.heap[g2]? =some (.cells c2 u2 (0,0)))
 (hu1:P.underlying t1=some d1) (hd1:(match d1 with| .struct _| .array _ _=>true|_=>false)=true) (hi1:(P.info? t1).map (·.size)=some c1.size)
 (hu2:P.underlying t2=some d2) (hd2:(match d2 with| .struct _| .array _ _=>true|_=>false)=true) (hi2:(P.info? t2).map (·.size)=some c2.size) (hdf:a.defers=[])
 (hpost:post (.returned (.tuple #[.agg c1,.agg c2])) w):bodyPost P fn post .ret a w:=by
 have hp':a.tmps[p]?.getD undef=.pointer (some ⟨g1,0,none⟩):=by simpa using hp
 have hq':a.tmps[q]?.getD undef=.pointer (some ⟨g2,0,none⟩):=by simpa using hq
 refine bodyPost_ret (v:=.tuple #[.agg c1,.agg c2]) ?_ hdf hpost;simp [results,h,hp',hq',asAddr,run_loadVar_row w g1 u1 t1 c1 (0,0) d1 hg1 hu1 hd1 hi1,run_loadVar_row w g2 u2 t2 c2 (0,0) d2 hg2 hu2 hd2 hi2]
def orN (c d:Int×Int×Int):Int×Int×Int:=if c.1=-2 then d else c
def zGV (a b c:Int×Int×Int):Value:=.agg #[.int .i64 a.1,.int .i64 b.1,.int .i64 c.1]
def zLH (a b c:Int×Int×Int):Value:=.agg #[.int .i64 a.2.1,.int .i64 a.2.2,.int .i64 b.2.1,.int .i64 b.2.2,.int .i64 c.2.1,.int .i64 c.2.2]
def nbA (ds:List DoneP) (f wide n:Nat) (z:Nat→Int) (list first:Nat):Int×Int×Int:=zBd ds f wide n z list (((2*((f+n)%wide)+first%2:Nat):Int)-1) ((2*((f+n)/wide)+first/2:Nat):Int)
def nbB (ds:List DoneP) (f wide n:Nat) (z:Nat→Int) (list first:Nat):Int×Int×Int:=zBd ds f wide n z list ((2*((f+n)%wide)+first%2:Nat):Int) (((2*((f+n)/wide)+first/2:Nat):Int)-1)
def nbC (ds:List DoneP) (f wide n:Nat) (z:Nat→Int) (list first wd:Nat):Int×Int×Int:=
 orN (zBd ds f wide n z list (((2*((f+n)%wide)+first%2:Nat):Int)+(wd:Int)) (((2*((f+n)/wide)+first/2:Nat):Int)-1)) (zBd ds f wide n z list (((2*((f+n)%wide)+first%2:Nat):Int)-1) (((2*((f+n)/wide)+first/2:Nat):Int)-1))
theorem zEX {sb f wide n:Nat} {S:Nat→Value} {ds:List DoneP} {z:Nat→Int} {w:World} (h:MotIn w sb S f wide n ds z) (list:Nat) (hl:list<2) (first wd:Nat) (hf:first<4) (hwd:wd≤2):
 Calls Tryz.prog 138 #[.pointer (some ⟨sb,0,none⟩),.int .i64 first,.int .i64 wd,.int .i64 list] w fun e w'=>
  e=.returned (.tuple #[zGV (nbA ds f wide n z list first) (nbB ds f wide n z list first) (nbC ds f wide n z list first wd),zLH (nbA ds f wide n z list first) (nbB ds f wide n z list first) (nbC ds f wide n z list first wd)])∧Only [] w w':=by
 have bw:=h.s.bw;obtain ⟨col,hcol⟩:∃ q,q=(f+n)%wide:=⟨_,rfl⟩;obtain ⟨row,hrow⟩:∃ q,q=(f+n)/wide:=⟨_,rfl⟩;have hcw:col<wide:=by rw [hcol];exact Nat.mod_lt _ (by omega)
 have hrw:row*wide≤2000000:=by have:=Nat.div_mul_le_self (f+n) wide;have:=h.s.bf;have:=h.s.bn;rw [hrow];omega
 have hrb:row≤2000000:=by have:=Nat.div_le_self (f+n) wide;have:=h.s.bf;have:=h.s.bn;rw [hrow];omega
 obtain ⟨X,hX⟩:∃ q,q=2*col+first%2:=⟨_,rfl⟩
 obtain ⟨Y,hY⟩:∃ q,q=2*row+first/2:=⟨_,rfl⟩
 obtain ⟨fm,hfm⟩:∃ q,q=first%2:=⟨_,rfl⟩
 obtain ⟨fq,hfq⟩:∃ q,q=first/2:=⟨_,rfl⟩
 have ifm:(first:Int)%2=(fm:Int):=by omega
 have ifq:(first:Int)/2=(fq:Int):=by omega
 have iX:2*(col:Int)+(fm:Int)=(X:Int):=by omega
 have iY:2*(row:Int)+(fq:Int)=(Y:Int):=by omega
 have bX:X≤2000001:=by omega
 have bY:Y≤4000001:=by omega
 have pb:∀ x y:Int,x≤(X:Int)+2→y≤(Y:Int)→y.toNat/2*wide+x.toNat/2≤100000000:=by
  intro x y h1 h2;have h3:y.toNat/2≤row:=by omega
  have h4:y.toNat/2*wide≤row*wide:=Nat.mul_le_mul_right _ h3;omega
 have HPB:=zh pb;have hA:nbA ds f wide n z list first=zBd ds f wide n z list ((X:Int)-1) Y:=by unfold nbA;rw [←hcol,←hrow,←hX,←hY]
 have hB:nbB ds f wide n z list first=zBd ds f wide n z list X ((Y:Int)-1):=by unfold nbB;rw [←hcol,←hrow,←hX,←hY]
 have hC:nbC ds f wide n z list first wd=orN (zBd ds f wide n z list ((X:Int)+wd) ((Y:Int)-1)) (zBd ds f wide n z list ((X:Int)-1) ((Y:Int)-1)):=by unfold nbC;rw [←hcol,←hrow,←hX,←hY]
 rw [hA,hB,hC];have hpl:∀ w',MotIn w' sb S f wide n ds z→Calls Tryz.prog 136 #[.pointer (some ⟨sb,0,none⟩)] w' fun e w2=>e=.returned (.tuple #[.int .i64 col,.int .i64 row])∧∃ k,w2=w'.drewN k:=fun w' hw=>by rw [hcol,hrow];exact zGR hw.s
 have HP:=zh hpl;have hpa:∀ w',MotIn w' sb S f wide n ds z→∀ x y:Int,x≤(X:Int)+2→y≤(Y:Int)→Calls Tryz.prog 172 #[.pointer (some ⟨sb,0,none⟩),.int .i64 x,.int .i64 y,.int .i64 list] w' fun e w2=>e=.returned (zLw (zBd ds f wide n z list x y))∧Only [] w' w2:=
  fun w' hw x y h1 h2=>zMO hw list hl x y (pb x y h1 h2) (by omega) (by omega)
 have HQ:=zh hpa;clear hpl hpa hA hB hC hcol hrow hX hY hfm hfq pb hcw hrw hrb;obtain ⟨wA,hwA⟩:∃ wA,wA=(w.alloc (.cells #[.int .i64 0,.int .i64 0,.int .i64 0] 188)).alloc (.cells #[.int .i64 0,.int .i64 0,.int .i64 0,.int .i64 0,.int .i64 0,.int .i64 0] 238):=⟨_,rfl⟩;have oA:Hid (Only [] w wA):=zh (by rw [hwA];exact ((Only.refl _ w).alloc _).alloc _);have HR:Hid (wA.heap[w.heap.size]? =some (.cells #[.int .i64 0,.int .i64 0,.int .i64 0] 188 (0,0))):=zh (by rw [hwA];exact ZE _ (ZA w _));have HV:Hid (wA.heap[w.heap.size+1]? =some (.cells #[.int .i64 0,.int .i64 0,.int .i64 0,.int .i64 0,.int .i64 0,.int .i64 0] 238 (0,0))):=zh (by
  rw [hwA];have:=ZA (w.alloc (.cells #[.int .i64 0,.int .i64 0,.int .i64 0] 188)) (.cells #[.int .i64 0,.int .i64 0,.int .i64 0,.int .i64 0,.int .i64 0,.int .i64 0] 238)
  simpa using this)
 have HM:Hid (MotIn wA sb S f wide n ds z):=zh (h.same oA.out);have hk:∀ wx,Only [w.heap.size,w.heap.size+1] wA wx→MotIn wx sb S f wide n ds z:=fun wx ho=>HM.out.only ho (by have:=h.s.s.lt;simp;omega) (fun g hg=>by obtain ⟨cur,hc⟩:=zD h.s.a hg;have:=lt_of_block hc;simp;omega)
 have HK:=zh hk;clear h hk
 go_enter Tryz.func138,Tryz.ntmps138
 go_wp2_with fail
 rw [←hwA];clear hwA;refine (HP.out _ HM.out).mono ?_;rintro e w1 ⟨rfl,k1,rfl⟩
 go_wp2_with fail
 have O0:Hid (Only [w.heap.size,w.heap.size+1] wA (wA.drewN k1)):=zh ((Only.refl _ wA).drewN k1);have R0:Hid ((wA.drewN k1).heap[w.heap.size]? =_):=zh HR.out;have V0:Hid ((wA.drewN k1).heap[w.heap.size+1]? =_):=zh HV.out;generalize wA.drewN k1=u0 at O0 R0 V0 ⊢;refine (HQ.out u0 (HK.out _ O0.out) ((X:Int)-1) ((Y:Int)) (by omega) (by omega)).mono ?_;rintro e x1 ⟨rfl,ho⟩;obtain ⟨t1,ht1⟩:∃ t,t=zBd ds f wide n z list ((X:Int)-1) ((Y:Int)):=⟨_,rfl⟩;have T1:=zh ht1;rw [←ht1];clear ht1;obtain ⟨r1,a1,b1⟩:=t1;have hr:=ho.heap R0.out (by simp);have hv:=ho.heap V0.out (by simp);have c0:=zA hr 0;have c1:=ZB hr 0;have c2:=zA hv 0;have c3:=ZB hv 0;have c4:=zA hv 1;have c5:=ZB hv 1
 have R1:Hid ((((x1.setCell ⟨w.heap.size,0,none⟩ (.int .i64 r1)).setCell ⟨w.heap.size+1,0,none⟩ (.int .i64 a1)).setCell ⟨w.heap.size+1,1,none⟩ (.int .i64 b1)).heap[w.heap.size]? =some (.cells #[.int .i64 r1,.int .i64 0,.int .i64 0] 188 (0,0))):=zh (zC _ (zC _ (zB _ hr) (by omega)) (by omega));have V1:Hid ((((x1.setCell ⟨w.heap.size,0,none⟩ (.int .i64 r1)).setCell ⟨w.heap.size+1,0,none⟩ (.int .i64 a1)).setCell ⟨w.heap.size+1,1,none⟩ (.int .i64 b1)).heap[w.heap.size+1]? =some (.cells #[.int .i64 a1,.int .i64 b1,.int .i64 0,.int .i64 0,.int .i64 0,.int .i64 0] 238 (0,0))):=zh (zB _ (zB _ (zC _ hv (by omega))))
 have O1:Hid (Only [w.heap.size,w.heap.size+1] wA (((x1.setCell ⟨w.heap.size,0,none⟩ (.int .i64 r1)).setCell ⟨w.heap.size+1,0,none⟩ (.int .i64 a1)).setCell ⟨w.heap.size+1,1,none⟩ (.int .i64 b1))):=zh ((((O0.out.trans' ho (by simp)).setCell (.inl (by simp)) _).setCell (.inl (by simp)) _).setCell (.inl (by simp)) _);clear hr hv ho R0 V0 O0;unfold zLw
 go_wp2_with fail
 clear c0 c1 c2 c3 c4 c5;generalize (((x1.setCell ⟨w.heap.size,0,none⟩ (.int .i64 r1)).setCell ⟨w.heap.size+1,0,none⟩ (.int .i64 a1)).setCell ⟨w.heap.size+1,1,none⟩ (.int .i64 b1))=u1 at R1 V1 O1 ⊢;refine (HQ.out u1 (HK.out _ O1.out) ((X:Int)) ((Y:Int)-1) (by omega) (by omega)).mono ?_;rintro e x2 ⟨rfl,ho⟩;obtain ⟨t2,ht2⟩:∃ t,t=zBd ds f wide n z list ((X:Int)) ((Y:Int)-1):=⟨_,rfl⟩;have T2:=zh ht2;rw [←ht2];clear ht2;obtain ⟨r2,a2,b2⟩:=t2;have hr:=ho.heap R1.out (by simp);have hv:=ho.heap V1.out (by simp);have c0:=zA hr 1;have c1:=ZB hr 1;have c2:=zA hv 2;have c3:=ZB hv 2;have c4:=zA hv 3;have c5:=ZB hv 3
 have R2:Hid ((((x2.setCell ⟨w.heap.size,1,none⟩ (.int .i64 r2)).setCell ⟨w.heap.size+1,2,none⟩ (.int .i64 a2)).setCell ⟨w.heap.size+1,3,none⟩ (.int .i64 b2)).heap[w.heap.size]? =some (.cells #[.int .i64 r1,.int .i64 r2,.int .i64 0] 188 (0,0))):=zh (zC _ (zC _ (zB _ hr) (by omega)) (by omega));have V2:Hid ((((x2.setCell ⟨w.heap.size,1,none⟩ (.int .i64 r2)).setCell ⟨w.heap.size+1,2,none⟩ (.int .i64 a2)).setCell ⟨w.heap.size+1,3,none⟩ (.int .i64 b2)).heap[w.heap.size+1]? =some (.cells #[.int .i64 a1,.int .i64 b1,.int .i64 a2,.int .i64 b2,.int .i64 0,.int .i64 0] 238 (0,0))):=zh (zB _ (zB _ (zC _ hv (by omega))))
 have O2:Hid (Only [w.heap.size,w.heap.size+1] wA (((x2.setCell ⟨w.heap.size,1,none⟩ (.int .i64 r2)).setCell ⟨w.heap.size+1,2,none⟩ (.int .i64 a2)).setCell ⟨w.heap.size+1,3,none⟩ (.int .i64 b2))):=zh ((((O1.out.trans' ho (by simp)).setCell (.inl (by simp)) _).setCell (.inl (by simp)) _).setCell (.inl (by simp)) _);clear hr hv ho R1 V1 O1;unfold zLw
 go_wp2_with fail
 clear c0 c1 c2 c3 c4 c5;generalize (((x2.setCell ⟨w.heap.size,1,none⟩ (.int .i64 r2)).setCell ⟨w.heap.size+1,2,none⟩ (.int .i64 a2)).setCell ⟨w.heap.size+1,3,none⟩ (.int .i64 b2))=u2 at R2 V2 O2 ⊢;refine (HQ.out u2 (HK.out _ O2.out) ((X:Int)+(wd:Int)) ((Y:Int)-1) (by omega) (by omega)).mono ?_;rintro e x3 ⟨rfl,ho⟩;obtain ⟨t3,ht3⟩:∃ t,t=zBd ds f wide n z list ((X:Int)+(wd:Int)) ((Y:Int)-1):=⟨_,rfl⟩;have T3:=zh ht3;rw [←ht3];clear ht3;obtain ⟨r3,a3,b3⟩:=t3;have hr:=ho.heap R2.out (by simp);have hv:=ho.heap V2.out (by simp);have c0:=zA hr 2;have c1:=ZB hr 2;have c2:=zA hv 4;have c3:=ZB hv 4;have c4:=zA hv 5;have c5:=ZB hv 5
 have R3:Hid ((((x3.setCell ⟨w.heap.size,2,none⟩ (.int .i64 r3)).setCell ⟨w.heap.size+1,4,none⟩ (.int .i64 a3)).setCell ⟨w.heap.size+1,5,none⟩ (.int .i64 b3)).heap[w.heap.size]? =some (.cells #[.int .i64 r1,.int .i64 r2,.int .i64 r3] 188 (0,0))):=zh (zC _ (zC _ (zB _ hr) (by omega)) (by omega));have V3:Hid ((((x3.setCell ⟨w.heap.size,2,none⟩ (.int .i64 r3)).setCell ⟨w.heap.size+1,4,none⟩ (.int .i64 a3)).setCell ⟨w.heap.size+1,5,none⟩ (.int .i64 b3)).heap[w.heap.size+1]? =some (.cells #[.int .i64 a1,.int .i64 b1,.int .i64 a2,.int .i64 b2,.int .i64 a3,.int .i64 b3] 238 (0,0))):=zh (zB _ (zB _ (zC _ hv (by omega))))
 have O3:Hid (Only [w.heap.size,w.heap.size+1] wA (((x3.setCell ⟨w.heap.size,2,none⟩ (.int .i64 r3)).setCell ⟨w.heap.size+1,4,none⟩ (.int .i64 a3)).setCell ⟨w.heap.size+1,5,none⟩ (.int .i64 b3))):=zh ((((O2.out.trans' ho (by simp)).setCell (.inl (by simp)) _).setCell (.inl (by simp)) _).setCell (.inl (by simp)) _);clear hr hv ho R2 V2 O2;unfold zLw
 go_upto_region 6 with fail
 clear c0 c1 c2 c3 c4 c5;generalize (((x3.setCell ⟨w.heap.size,2,none⟩ (.int .i64 r3)).setCell ⟨w.heap.size+1,4,none⟩ (.int .i64 a3)).setCell ⟨w.heap.size+1,5,none⟩ (.int .i64 b3))=u3 at R3 V3 O3 ⊢;have c0:=zA R3.out 2
 by_cases hr:r3=-2
 ·have bb:(r3==-2)=true:=by simp [hr]
  have HT:Hid (∀ d,orN (r3,a3,b3) d=d):=zh (fun d=>by unfold orN;rw [if_pos hr]);clear hr
  go_wp2_with fail
  refine (HQ.out u3 (HK.out _ O3.out) ((X:Int)-1) ((Y:Int)-1) (by omega) (by omega)).mono ?_;rintro e x4 ⟨rfl,ho⟩;obtain ⟨t4,ht4⟩:∃ t,t=zBd ds f wide n z list ((X:Int)-1) ((Y:Int)-1):=⟨_,rfl⟩;have T4:=zh ht4;rw [←ht4];clear ht4;obtain ⟨r4,a4,b4⟩:=t4;have hr:=ho.heap R3.out (by simp);have hv:=ho.heap V3.out (by simp);have c0:=zA hr 2;have c1:=ZB hr 2;have c2:=zA hv 4;have c3:=ZB hv 4;have c4:=zA hv 5;have c5:=ZB hv 5;have R4:Hid ((((x4.setCell ⟨w.heap.size,2,none⟩ (.int .i64 r4)).setCell ⟨w.heap.size+1,4,none⟩ (.int .i64 a4)).setCell ⟨w.heap.size+1,5,none⟩ (.int .i64 b4)).heap[w.heap.size]? =some (.cells #[.int .i64 r1,.int .i64 r2,.int .i64 r4] 188 (0,0))):=zh (zC _ (zC _ (zB _ hr) (by omega)) (by omega))
  have V4:Hid ((((x4.setCell ⟨w.heap.size,2,none⟩ (.int .i64 r4)).setCell ⟨w.heap.size+1,4,none⟩ (.int .i64 a4)).setCell ⟨w.heap.size+1,5,none⟩ (.int .i64 b4)).heap[w.heap.size+1]? =some (.cells #[.int .i64 a1,.int .i64 b1,.int .i64 a2,.int .i64 b2,.int .i64 a4,.int .i64 b4] 238 (0,0))):=zh (zB _ (zB _ (zC _ hv (by omega))));have O4:Hid (Only [w.heap.size,w.heap.size+1] wA (((x4.setCell ⟨w.heap.size,2,none⟩ (.int .i64 r4)).setCell ⟨w.heap.size+1,4,none⟩ (.int .i64 a4)).setCell ⟨w.heap.size+1,5,none⟩ (.int .i64 b4))):=zh ((((O3.out.trans' ho (by simp)).setCell (.inl (by simp)) _).setCell (.inl (by simp)) _).setCell (.inl (by simp)) _);clear hr hv ho R3 V3 O3;unfold zLw
  go_upto_region 8 with fail
  clear c0 c1 c2 c3 c4 c5;generalize (((x4.setCell ⟨w.heap.size,2,none⟩ (.int .i64 r4)).setCell ⟨w.heap.size+1,4,none⟩ (.int .i64 a4)).setCell ⟨w.heap.size+1,5,none⟩ (.int .i64 b4))=u4 at R4 V4 O4 ⊢;have c0:=zA R4.out 0;have d0:=ZB R4.out 0;have e0:=ZT (i:=0) (v:=.int .i64 r1) R4.out rfl;have c1:=zA R4.out 1;have d1:=ZB R4.out 1;have e1:=ZT (i:=1) (v:=.int .i64 r2) R4.out rfl;have c2:=zA R4.out 2;have d2:=ZB R4.out 2;have e2:=ZT (i:=2) (v:=.int .i64 r4) R4.out rfl;have p0:=zA V4.out 0;have q0:=ZB V4.out 0;have s0:=ZT (i:=0) (v:=.int .i64 a1) V4.out rfl;have p1:=zA V4.out 1;have q1:=ZB V4.out 1;have s1:=ZT (i:=1) (v:=.int .i64 b1) V4.out rfl;have p2:=zA V4.out 2;have q2:=ZB V4.out 2;have s2:=ZT (i:=2) (v:=.int .i64 a2) V4.out rfl;have p3:=zA V4.out 3;have q3:=ZB V4.out 3;have s3:=ZT (i:=3) (v:=.int .i64 b2) V4.out rfl;have p4:=zA V4.out 4;have q4:=ZB V4.out 4
  have s4:=ZT (i:=4) (v:=.int .i64 a4) V4.out rfl;have p5:=zA V4.out 5;have q5:=ZB V4.out 5;have s5:=ZT (i:=5) (v:=.int .i64 b4) V4.out rfl
  go_region
  go_wp2_with fail
  refine zJr rfl w.heap.size (w.heap.size+1) rfl rfl R4.out V4.out Tryz.underlying188 rfl (by kernel_rfl) Tryz.underlying238 rfl (by kernel_rfl) rfl ⟨?_,(oA.out.trans' O4.out (fun i hi=> .inr (by simp at hi;omega))).drew⟩;rw [←T1.out,←T2.out,←T3.out,←T4.out,HT.out]
  rfl
 ·have bb:(r3==-2)=false:=by simp [hr]
  have HT:Hid (∀ d,orN (r3,a3,b3) d=(r3,a3,b3)):=zh (fun d=>by unfold orN;rw [if_neg hr]);clear hr
  go_upto_region 8 with fail
  have c0:=zA R3.out 0;have d0:=ZB R3.out 0;have e0:=ZT (i:=0) (v:=.int .i64 r1) R3.out rfl;have c1:=zA R3.out 1;have d1:=ZB R3.out 1;have e1:=ZT (i:=1) (v:=.int .i64 r2) R3.out rfl;have c2:=zA R3.out 2;have d2:=ZB R3.out 2;have e2:=ZT (i:=2) (v:=.int .i64 r3) R3.out rfl;have p0:=zA V3.out 0;have q0:=ZB V3.out 0;have s0:=ZT (i:=0) (v:=.int .i64 a1) V3.out rfl;have p1:=zA V3.out 1;have q1:=ZB V3.out 1;have s1:=ZT (i:=1) (v:=.int .i64 b1) V3.out rfl;have p2:=zA V3.out 2;have q2:=ZB V3.out 2;have s2:=ZT (i:=2) (v:=.int .i64 a2) V3.out rfl;have p3:=zA V3.out 3;have q3:=ZB V3.out 3;have s3:=ZT (i:=3) (v:=.int .i64 b2) V3.out rfl;have p4:=zA V3.out 4;have q4:=ZB V3.out 4;have s4:=ZT (i:=4) (v:=.int .i64 a3) V3.out rfl;have p5:=zA V3.out 5;have q5:=ZB V3.out 5;have s5:=ZT (i:=5) (v:=.int .i64 b3) V3.out rfl
  go_region
  go_wp2_with fail
  refine zJr rfl w.heap.size (w.heap.size+1) rfl rfl R3.out V3.out Tryz.underlying188 rfl (by kernel_rfl) Tryz.underlying238 rfl (by kernel_rfl) rfl ⟨?_,(oA.out.trans' O3.out (fun i hi=> .inr (by simp at hi;omega))).drew⟩;rw [←T1.out,←T2.out,←T3.out,HT.out]
  rfl
def ZD (shape:Int):List (List Nat):=if shape=0 then [[0,1,2,3]] else if shape=1 then [[0,1],[2,3]] else if shape=2 then [[0,2],[1,3]] else [[0],[1],[2],[3]]
structure UnitsIn (w:World) (U:List Nat) (v:Value) (us:List (List Nat)):Prop where
 lt:∀ i∈U,i<w.heap.size
 sl:∃ g∈U,v=.slice (some ⟨g,0,none⟩) us.length us.length∧∀ i u,us[i]? =some u→∃ b∈U,w.cell? ⟨g,i,none⟩=some (.slice (some ⟨b,0,none⟩) u.length u.length)∧∀ (j p:Nat),u[j]? =some p→w.cell? ⟨b,j,none⟩=some (.int .i64 p)
theorem UnitsIn.only {w w':World} {U Y:List Nat} {v:Value} {us:List (List Nat)} (h:UnitsIn w U v us) (ho:Only Y w w') (hY:∀ i∈U,i∉Y):UnitsIn w' U v us where
 lt:=fun i hi=>Nat.lt_of_lt_of_le (h.lt i hi) ho.size
 sl:=by
  obtain ⟨g,hg,hv,hu⟩:=h.sl;refine ⟨g,hg,hv,fun i u hi=>?_⟩;obtain ⟨b,hb,h1,h2⟩:=hu i u hi;exact ⟨b,hb,ho.cell h1 (hY g hg),fun j p hj=>ho.cell (h2 j p hj) (hY b hb)⟩
def zIi (w w':World) (v:Value) (us:List (List Nat)):Prop:=∃ U:List Nat,UnitsIn w' U v us∧(∀ i∈U,w.heap.size≤i)∧Only [] w w'
def zKn (w:World) (us:List (List Nat)) (e:Ending) (w':World):Prop:=∃ v:Value,e=.returned v∧zIi w w' v us
theorem zEV {w w':World} {ls:List (List Nat)} {B g:Nat} {bs:List Nat} (hw:∀ i∈g::bs,w.heap.size≤i∧i<w'.heap.size) (ho:Only [] w w') (hl:bs.length=ls.length)
 (hg:w'.heap[g]? =some (Obj.cells ((bs.zip ls).map fun p=>Value.slice (some ⟨p.1,0,none⟩) p.2.length p.2.length).toArray 64 (0,0))) (hb:∀ (i b:Nat) (u:List Nat),bs[i]? =some b→ls[i]? =some u→w'.heap[b]? =some (Obj.cells (u.map fun p:Nat=>Value.int .i64 (p:Int)).toArray 3 (0,0))) (hB:B=ls.length):
 zIi w w' (.slice (some ⟨g,0,none⟩) B B) ls:=by
 subst hB;refine ⟨g::bs,⟨fun i hi=>(hw i hi).2,g,List.mem_cons_self ..,rfl,fun i u hi=>?_⟩,fun i hi=>(hw i hi).1,ho⟩;obtain ⟨hi1,hi2⟩:=List.getElem?_eq_some_iff.1 hi;have hb1:bs[i]? =some (bs[i]'(by omega)):=List.getElem?_eq_getElem (by omega);refine ⟨bs[i]'(by omega),List.mem_cons_of_mem _ (List.getElem_mem _),?_,fun j p hj=>?_⟩
 ·rw [zA hg];simp [hb1,hi,List.zip,List.getElem?_zipWith]
 ·rw [zA (hb i _ u hb1 hi)];simp [hj]
theorem zAV (w:World) (o:Obj):(w.alloc o).heap=w.heap.push o:=rfl
theorem zGL (shape:Int) (w:World):Calls Tryz.prog 89 #[.int .i64 shape] w (zKn w (ZD shape)):=by
 by_cases h0:shape=0
 ·have hu:ZD shape=[[0,1,2,3]]:=by unfold ZD;rw [if_pos h0]
  subst h0
  go_enter Tryz.func89,Tryz.ntmps89
  go_wp2;refine bodyPost_ret (results_tmp rfl _ _ _) rfl ⟨_,rfl,?_⟩;rw [hu];refine zEV (bs:=[w.heap.size]) (by simp;try omega) (((Only.refl _ w).alloc _).alloc _) rfl ?_ ?_ rfl
  ·simp only [zAV,Array.getElem?_push,Array.size_push];simp;try ((repeat' split)<;>first|omega|rfl)
  ·intro i b u hi hl;have hlt:i<1:=by
    have:=(List.getElem?_eq_some_iff.1 hi).1
    simpa using this
   obtain rfl:i=0:=by omega
   all_goals
    simp at hi hl;subst hi hl;simp only [zAV,Array.getElem?_push,Array.size_push];simp;try ((repeat' split)<;>first|omega|rfl)
 ·by_cases h1:shape=1
  ·have hu:ZD shape=[[0,1],[2,3]]:=by unfold ZD;rw [if_neg h0,if_pos h1]
   subst h1
   go_enter Tryz.func89,Tryz.ntmps89
   go_wp2;refine bodyPost_ret (results_tmp rfl _ _ _) rfl ⟨_,rfl,?_⟩;rw [hu];refine zEV (bs:=[w.heap.size,w.heap.size+1]) (by simp;try omega) ((((Only.refl _ w).alloc _).alloc _).alloc _) rfl ?_ ?_ rfl
   ·simp only [zAV,Array.getElem?_push,Array.size_push];simp;try ((repeat' split)<;>first|omega|rfl)
   ·intro i b u hi hl;have hlt:i<2:=by
     have:=(List.getElem?_eq_some_iff.1 hi).1
     simpa using this
    obtain rfl|rfl:i=0∨i=1:=by omega
    all_goals
     simp at hi hl;subst hi hl;simp only [zAV,Array.getElem?_push,Array.size_push];simp;try ((repeat' split)<;>first|omega|rfl)
  ·by_cases h2:shape=2
   ·have hu:ZD shape=[[0,2],[1,3]]:=by unfold ZD;rw [if_neg h0,if_neg h1,if_pos h2]
    subst h2
    go_enter Tryz.func89,Tryz.ntmps89
    go_wp2;refine bodyPost_ret (results_tmp rfl _ _ _) rfl ⟨_,rfl,?_⟩;rw [hu];refine zEV (bs:=[w.heap.size,w.heap.size+1]) (by simp;try omega) ((((Only.refl _ w).alloc _).alloc _).alloc _) rfl ?_ ?_ rfl
    ·simp only [zAV,Array.getElem?_push,Array.size_push];simp;try ((repeat' split)<;>first|omega|rfl)
    ·intro i b u hi hl;have hlt:i<2:=by
      have:=(List.getElem?_eq_some_iff.1 hi).1
      simpa using this
     obtain rfl|rfl:i=0∨i=1:=by omega
     all_goals
      simp at hi hl;subst hi hl;simp only [zAV,Array.getElem?_push,Array.size_push];simp;try ((repeat' split)<;>first|omega|rfl)
   ·have hu:ZD shape=[[0],[1],[2],[3]]:=by unfold ZD;rw [if_neg h0,if_neg h1,if_neg h2]
    have b0:(shape==0)=false:=by simp [h0]
    have b1:(shape==1)=false:=by simp [h1]
    have b2:(shape==2)=false:=by simp [h2]
    clear h0 h1 h2
    go_enter Tryz.func89,Tryz.ntmps89
    go_wp2;refine bodyPost_ret (results_tmp rfl _ _ _) rfl ⟨_,rfl,?_⟩;rw [hu];refine zEV (bs:=[w.heap.size,w.heap.size+1,w.heap.size+1+1,w.heap.size+1+1+1]) (by simp;try omega) ((((((Only.refl _ w).alloc _).alloc _).alloc _).alloc _).alloc _) rfl ?_ ?_ rfl
    ·simp only [zAV,Array.getElem?_push,Array.size_push];simp;try ((repeat' split)<;>first|omega|rfl)
    ·intro i b u hi hl;have hlt:i<4:=by
      have:=(List.getElem?_eq_some_iff.1 hi).1
      simpa using this
     obtain rfl|rfl|rfl|rfl:i=0∨i=1∨i=2∨i=3:=by omega
     all_goals
      simp at hi hl;subst hi hl;simp only [zAV,Array.getElem?_push,Array.size_push];simp;try ((repeat' split)<;>first|omega|rfl)
end Go.Proofs.YtcppbdlmcbjmeaaGreatDoor
