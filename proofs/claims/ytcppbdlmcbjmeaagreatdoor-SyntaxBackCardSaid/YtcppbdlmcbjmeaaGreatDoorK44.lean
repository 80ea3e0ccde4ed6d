/- Lemmas that the law needs, part 44. -/
import Derived.Test.YtcppbdlmcbjmeaaGreatDoorK43
set_option maxHeartbeats 12800000
set_option maxRecDepth 100000
namespace Go.Proofs.YtcppbdlmcbjmeaaGreatDoor
open Go.RowKit
structure MbsAt (w:World) (g:Nat) (ms:List MbN):Prop where
 each:∀ n m,ms[n]? =some m→∃ X,w.rangeAt g (n*483) (fnA 483 X).toList∧zNs w X m
theorem MbsAt.only {w w':World} {g:Nat} {ms:List MbN} (h:MbsAt w g ms) (ho:Only [] w w'):MbsAt w' g ms where
 each:=fun n m hm=>by
  obtain ⟨X,h1,h2⟩:=h.each n m hm;obtain ⟨ao,len,cap,q1,q2,q4⟩:=h2.pcm;refine ⟨X,fun j v hj=>ho.cell (h1 j v hj) (by simp),h2.cell,ao,len,cap,q1,q2,fun h=>?_⟩;obtain ⟨gp,off,e1,e2⟩:=q4 h;exact ⟨gp,off,e1,fun i hi=>ho.cell (e2 i hi) (by simp)⟩
def zN0 (Xs:List (Nat→Value)):List Value:=Xs.flatMap fun X=>(fnA 483 X).toList
theorem zBI (x:Int) (w:World):Calls Tryz.prog 14 #[.int .i64 x] w fun e w'=>e=.returned (.int .i64 x)∧w=w':=by
 go_enter Tryz.func14,Tryz.ntmps14
 go_wp2;go_ret;exact ⟨rfl,rfl⟩
structure zN5 (c:Cod) (w0 w:World) (sb:Nat) (hd:Nat→Value) (s:Sl) (p:Int) (ms:List MbN) (j:Nat) (G:List Nat) (Xs:List (Nat→Value)) (v:Value) (B:Nat):Prop where
 al:Along c w sb hd s p ms j G
 o:Only [] w0 w
 new:∀ i∈G,w0.heap.size≤i
 own:w.ownsRow B 51 483 v j (zN0 Xs)
 len:Xs.length=j
 mb:∀ (a:Nat) (m:MbN) (X:Nat→Value),ms[a]? =some m→Xs[a]? =some X→MbOutN w G X (s.out (zHb s (ms.take a)) m.y) m
 dis:∀ g,v.ownBlock=some g→g∉G∧w0.heap.size≤g
structure RdMore (c:Cod) (w0 w:World) (sb:Nat) (hd:Nat→Value) (s:Sl) (p:Int) (ms:List MbN) (j:Nat) (G:List Nat) (Xs:List (Nat→Value)) (D:List Value) (X:Nat→Value) (v:Value) (B:Nat):Prop where
 al:Along c w sb hd s p ms (j+1) G
 o:Only [] w0 w
 new:∀ i∈G,w0.heap.size≤i
 own:w.ownsRow B 51 483 v j (zN0 Xs)
 len:Xs.length=j
 mb:∀ (a:Nat) (m:MbN) (Y:Nat→Value),ms[a]? =some m→(Xs++[X])[a]? =some Y→MbOutN w G Y (s.out (zHb s (ms.take a)) m.y) m
 dis:∀ g,v.ownBlock=some g→g∉G∧w0.heap.size≤g
 all:D=zN0 (Xs++[X])
theorem MbOutN.one {w:World} {G:List Nat} {X:Nat→Value} {ya:Nat→Int} {m:MbN} (h:MbOutN w G X ya m):(fnA 483 X).all (·.oneCell')=true:=by
 rw [Array.all_eq_true_iff_forall_mem];intro v hv;obtain ⟨j,hj,rfl⟩:∃ j,j<483∧X j=v:=by simpa [fnA] using hv
 by_cases hj2:j<482
 ·rw [h.cell j hj2];rfl
 ·obtain rfl:j=482:=by omega
  by_cases h2:m.y 0=2
  ·obtain ⟨pb,capb,q1,-⟩:=h.pcm h2;rw [q1];rfl
  ·rw [h.nil h2];rfl
theorem RdMore.push {c:Cod} {w0 w w1 w':World} {sb j B g cap:Nat} {hd X:Nat→Value} {s:Sl} {p:Int} {ms:List MbN} {G:List Nat} {Xs:List (Nat→Value)} {D:List Value} {v:Value} (h:RdMore c w0 w sb hd s p ms j G Xs D X v B) (hc:c.Ok) (ho:Only [] w w1)
 (hp:Pushed w1 B 51 483 v (j+1) D (.slice (some ⟨g,0,none⟩) (j+1) cap) w'):zN5 c w0 w' sb hd s p ms (j+1) G (Xs++[X]) (.slice (some ⟨g,0,none⟩) (j+1) cap) B:=by
 obtain ⟨p1,p2,g',cap',p3,p4⟩:=hp;injection p3 with p3
 injection p3 with p3
 injection p3 with p3
 subst p3;have al1:=h.al.only hc ho (by simp);have hlow:=h.al.low hc;have o1:Only v.ownBlock.toList w1 w':=(Only.refl _ w1).grown p2 (fun k hk=> .inl (by simp [hk]));have hown:∀ k,v.ownBlock=some k→∃ cur,w1.heap[k]? =some (.cells cur 51 (0,0)):=fun k hk=>by
  obtain ⟨cur,hcur⟩:=zD h.own hk;exact ⟨cur,ho.heap hcur (by simp)⟩
 refine ⟨al1.only hc o1 (fun i hi hm=>(h.dis i (by simpa using hm)).1 hi),(h.o.trans ho).trans' o1 (fun i hi=> .inr (h.dis i (by simpa using hi)).2),h.new,by rw [←h.all];exact p1,by rw [List.length_append,h.len];rfl,fun a m Y h1 h2=>?_,fun k hk=>?_⟩
 ·have h3:=h.mb a m Y h1 h2;refine ⟨h3.cell,h3.nil,fun h4=>?_⟩;obtain ⟨pb,capb,j1,j2,j3,j4⟩:=h3.pcm h4;have j5:=j2.only ho (by simp);have j6:=j5.only o1 (fun hm=>by
   obtain ⟨cur,hcur⟩:=hown pb (by simpa using hm);obtain ⟨cur2,hcur2,-⟩:=j5;rw [hcur] at hcur2;simp at hcur2)
  exact ⟨pb,capb,j1,j6,j3,j6.lt⟩
 ·obtain rfl:g=k:=by simpa [Value.ownBlock] using hk
  rcases p4 with p4|p4
  ·exact h.dis g p4
  ·refine ⟨fun e=>?_,?_⟩
   ·have:=hlow g e;have:=ho.size;omega
   ·have:=(h.o.trans ho).size;omega
def mbV (y:Nat→Int):Nat→Value:=fun j=>if j=482 then .slice none 0 0 else .int .i64 (y j)
theorem zNR {y:Nat→Int} {j:Nat} (h:j<482):mbV y j=.int .i64 (y j):=by
 unfold mbV;rw [if_neg (by omega)]
theorem zMl (y:Nat→Int):(fnA 483 (mbV y)).all (·.oneCell')=true:=by
 rw [Array.all_eq_true_iff_forall_mem];intro v hv;obtain ⟨j,hj,rfl⟩:∃ j,j<483∧mbV y j=v:=by simpa [fnA] using hv
 unfold mbV
 split<;>rfl
theorem zNO {s:Sl} {ds:List DoneP} {y:Nat→Int} (h:y 0≠3∧y 0≠4∧y 0≠5):s.out ds y=y:=by
 funext j
 unfold Sl.out Sl.parts
 split
 ·rw [if_neg h.2.1,if_neg (show ¬ (y 0=5∨y 0=3) from fun e=>e.elim h.2.2 h.1),show 20+(j-20)=j by omega]
 ·rfl
def hdQ (k q:Int):Nat→Value:=fun j=>if j=1 then .int .i64 k else if j=2 then .int .i64 2 else if j=17 then .int .i64 q else if j=6∨j=15∨j=18 then .bool false else if j=9∨j=10∨j=13∨j=14∨j=16 then .slice none 0 0 else .int .i64 0
theorem zL3 (k q:Int):zCb (hdQ k q) (0:Nat) k 2 0 0 q:=⟨rfl,rfl,rfl,rfl,rfl,rfl⟩
theorem zKi (k q:Int):Tryz.prog.built 26 [(1,.int .i64 k),(2,.int .i64 2),(17,.int .i64 q)]=some (hdL (hdQ k q)).toArray:=by kernel_rfl
theorem zKP (k q:Int):(hdL (hdQ k q)).toArray.all (·.oneCell')=true:=by kernel_rfl
def zNN (c:Bool):List Value:=[.bool c,.bool false,.int .i64 0,.int .i64 0,.int .i64 0,.bool false,.bool false,.int .i64 1,.int .i64 1]
def dcY (q:Int):Nat→Int:=fun j=>if j=0 then 1 else if j=18 then 2 else if j=49 then q else 0
theorem zLl (q:Int):Tryz.prog.built 51 [(0,.int .i64 1),(3,.int .i64 2),(7,.int .i64 q)]=some (fnA 483 (mbV (dcY q))):=by kernel_rfl
structure MbArg (w:World) (X:Nat→Value) (m:MbN) (len:Nat):Prop where
 cell:∀ j,j<482→X j=.int .i64 (m.y j)
 pcm:∃ ao cap,X 482=.slice ao len cap∧(0<len→∃ g off,ao=some ⟨g,off,none⟩∧∀ i,i<len→w.cell? ⟨g,off+i,none⟩=some (.int .u8 (m.ps i)))
 rng:∀ i,0≤m.ps i∧m.ps i≤255
theorem MbArg.only {w w':World} {X:Nat→Value} {m:MbN} {len:Nat} (h:MbArg w X m len) (ho:Only [] w w'):MbArg w' X m len where
 cell:=h.cell
 pcm:=by
  obtain ⟨ao,cap,h1,h2⟩:=h.pcm;refine ⟨ao,cap,h1,fun h3=>?_⟩;obtain ⟨g,off,e1,e2⟩:=h2 h3;exact ⟨g,off,e1,fun i hi=>ho.cell (e2 i hi) (by simp)⟩
 rng:=h.rng
theorem zJ6 {y:Nat→Int} {len:Nat} {t a0 a1:Int} (h:zDp y len t a0 a1):len=if y 0=2 then 384 else 0:=by
 have hi:=h.1.2.1;unfold zE9 at hi
 split
 ·rename_i h2;exact (h.1.2.2.2.2.2.2.1 h2).1
 ·rename_i h2;exact hi.2.2.2.2.elim (fun e=>absurd e h2) id
theorem MbArg.ok {w:World} {X:Nat→Value} {m:MbN} {len:Nat} {s:Sl} (h:MbArg w X m len) (ht:s.t=0∨s.t=1∨s.t=2) (hm:zDp m.y len s.t s.a0 s.a1):m.ok s∧zNs w X m:=by
 have hl:=zJ6 hm;obtain ⟨ao,cap,h1,h2⟩:=h.pcm;refine ⟨⟨ht,by rw [←hl];exact hm.1,hm.2.1,hm.2.2,fun i _=>h.rng i⟩,h.cell,ao,len,cap,h1,hl,fun hk=>?_⟩;rw [if_pos hk] at hl;subst hl;exact h2 (by decide)
structure zMB (w:World) (v:Value) (n:Nat) (X:Nat→Nat→Value) (m:Nat→MbN) (len:Nat→Nat):Prop where
 sl:∃ ao cap,v=.slice ao n cap∧(0<n→∃ g off,ao=some ⟨g,off,none⟩∧∀ i,i<n→w.rangeAt g (off+i*483) (fnA 483 (X i)).toList)
 each:∀ i,i<n→MbArg w (X i) (m i) (len i)
theorem zJj {w:World} {X:Nat→Value} {m:MbN} {len:Nat} (h:MbArg w X m len):zJU w (X 482) (strOfNums ((List.range len).map m.ps)):=by
 obtain ⟨ao,cap,h1,h2⟩:=h.pcm;rw [h1]
 rcases ao with _|ad
 ·by_cases h0:0<len
  ·obtain ⟨g,off,e,-⟩:=h2 h0
   cases e
  ·obtain rfl:len=0:=by omega
   exact zDE w 0 cap
 ·by_cases h0:0<len
  ·obtain ⟨g,off,e,e2⟩:=h2 h0;obtain rfl:=Option.some.inj e;exact run_convert_bytes_arg w 49 5 Tryz.underlying49 Tryz.underlying5 g off len cap ((List.range len).map m.ps) (by simp) (fun i hi=>by
    rw [e2 i hi];simp [List.getD,hi]) 9 Tryz.underlying9
  ·obtain rfl:len=0:=by omega
   have hh:(convert 49 9 (.slice (some ad) 0 cap)).run Tryz.prog w=.ok (.string ByteArray.empty) w:=by simp [convert,run_underlying Tryz.underlying49,run_underlying Tryz.underlying5,run_underlying Tryz.underlying9,go_sem,Conv.bytesToString,loadCells]
   exact hh
theorem zJi {w:World} {G:List Nat} {X:Nat→Value} {ya:Nat→Int} {m:MbN} {len:Nat} (h:MbOutN w G X ya m) (hl:len=if m.y 0=2 then 384 else 0):zJU w (X 482) (strOfNums ((List.range len).map m.ps)):=by
 by_cases h2:m.y 0=2
 ·rw [if_pos h2] at hl;subst hl;obtain ⟨pb,cap,e,hp,-,-⟩:=h.pcm h2;rw [e];exact zHl (by simp) (fun i hi=>by rw [hp.cell i hi];simp [List.getD,hi])
 ·rw [if_neg h2] at hl;subst hl;rw [h.nil h2];exact zDE w 0 0
theorem zHK (P:Nat→Prop):∀ n,∃ k,k≤n∧(∀ i,i<k→P i)∧(k<n→¬ P k)
 |0=>⟨0,Nat.le_refl _,fun i h=>absurd h (by omega),fun h=>absurd h (by omega)⟩
 |n+1=>by
  obtain ⟨k,h1,h2,h3⟩:=zHK P n
  by_cases hk:k<n
  ·exact ⟨k,by omega,h2,fun _=>h3 hk⟩
  ·obtain rfl:k=n:=by omega
   by_cases hP:P k
   ·exact ⟨k+1,Nat.le_refl _,fun i hi=>by
     by_cases e:i=k
     ·rw [e];exact hP
     ·exact h2 i (by omega),fun h=>absurd h (by omega)⟩
   ·exact ⟨k,by omega,h2,fun _=>hP⟩
def zCo (Xf:Nat→Value) (y:Nat→Int) (q:Nat):Nat→Value:=fun i=>if 20≤i∧i<20+7*q then .int .i64 (y i) else Xf i
theorem zIk (Xf:Nat→Value) (y:Nat→Int) (q:Nat):zAz (20+q*7) 7 (fun j=> .int .i64 (y (20+q*7+j))) (zCo Xf y q)=zCo Xf y (q+1):=by
 funext i
 unfold zAz zCo
 by_cases h:20+q*7≤i∧i<20+q*7+7
 ·rw [if_pos h,if_pos (by omega)];dsimp only;rw [show 20+q*7+(i-(20+q*7))=i by omega]
 ·rw [if_neg h]
  by_cases h2:20≤i∧i<20+7*q
  ·rw [if_pos h2,if_pos (by omega)]
  ·rw [if_neg h2,if_neg (by omega)]
theorem zIl {s:Sl} {ds:List DoneP} {Xf:Nat→Value} {y:Nat→Int} {q:Nat} (hX:∀ j,j<482→Xf j=.int .i64 (s.out ds y j)) (hq:q<4) (h4:y 0=4) (h3:y (20+7*q)≠3):zCo Xf y q=zCo Xf y (q+1):=by
 funext i
 unfold zCo
 by_cases h2:20≤i∧i<20+7*q
 ·rw [if_pos h2,if_pos (by omega)]
 ·rw [if_neg h2]
  by_cases h:20≤i∧i<20+7*(q+1)
  ·rw [if_pos h,hX i (by omega)];unfold Sl.out Sl.parts;rw [if_pos (by omega),if_pos h4];unfold Sl.G gOf;rw [show (i-20)/7=q by omega,if_neg h3,show 20+(i-20)=i by omega]
  ·rw [if_neg h]
theorem zJY {s:Sl} {ds:List DoneP} {Xf:Nat→Value} {y:Nat→Int} (hX:∀ j,j<482→Xf j=.int .i64 (s.out ds y j)) {j:Nat} (hj:j<482):zCo Xf y 4 j=.int .i64 (y j):=by
 unfold zCo
 by_cases h:20≤j∧j<20+7*4
 ·rw [if_pos h]
 ·rw [if_neg h,hX j hj];unfold Sl.out;rw [if_neg (by omega)]
theorem zNZ (hd:Nat→Value) (a b:Value):(((hdL hd).toArray.setIfInBounds 0 a).setIfInBounds 1 b)=(hdL (upd (upd hd 0 a) 1 b)).toArray:=by
 simp [hdL,upd]
theorem zJN:Tryz.prog.built 28 [(7,.int .i64 1),(8,.int .i64 1)]=some (zNN false).toArray:=by kernel_rfl
theorem zIL (c:Bool):(zNN c).toArray.all (·.oneCell')=true:=by kernel_rfl
theorem zIx {P:Program} {fn:Func} {p q:Tmp} {t1 t2:TypeId} {post:Ending→World→Prop} {a:Act} {w:World} (h:fn.results=#[.cell p t1,.cell q t2]) (g1 g2:Nat) {u1 u2:TypeId} {c1 c2:Array Value} {d1 d2:TypeDesc}
 (hp:a.tmps.getD p undef=.pointer (some ⟨g1,0,none⟩)) (hq:a.tmps.getD q undef=.pointer (some ⟨g2,0,none⟩)) (hg1:w.heap[g1]? =some (.cells c1 u1 (0,0))) (hg2:w.heap[g2]? =some (.cells c2 u2 (0,0)))
 (hu1:P.underlying t1=some d1) (hd1:(match d1 with| .struct _| .array _ _=>true|_=>false)=true) (hi1:(P.info? t1).map (·.size)=some c1.size)
 (hu2:P.underlying t2=some d2) (hd2:(match d2 with| .struct _| .array _ _=>true|_=>false)=true) (hi2:(P.info? t2).map (·.size)=some c2.size) (hdf:a.defers=[])
 (hpost:post (.returned (.tuple #[.agg c1,.agg c2])) w):bodyPost P fn post .ret a w:=by
 have hp':a.tmps[p]?.getD undef=.pointer (some ⟨g1,0,none⟩):=by simpa using hp
 have hq':a.tmps[q]?.getD undef=.pointer (some ⟨g2,0,none⟩):=by simpa using hq
 refine bodyPost_ret (v:=.tuple #[.agg c1,.agg c2]) ?_ hdf hpost;simp [results,h,hp',hq',asAddr,run_loadVar_row w g1 u1 t1 c1 (0,0) d1 hg1 hu1 hd1 hi1,run_loadVar_row w g2 u2 t2 c2 (0,0) d2 hg2 hu2 hd2 hi2]
theorem zMN (w:World):Calls Tryz.prog 31 #[] w fun e w'=>e=.returned (.tuple #[.agg (hdL (hdQ 1 26)).toArray,.agg (zNN false).toArray])∧Only [] w w':=by
 have hHb:=zKi 1 26;have hPb:=zJN;have h1H:=zKP 1 26;have h1P:=zIL false;obtain ⟨HL,hHL⟩:∃ HL,HL=hdL (hdQ 1 26):=⟨_,rfl⟩;obtain ⟨PL,hPL⟩:∃ PL,PL=zNN false:=⟨_,rfl⟩;rw [←hHL] at hHb h1H ⊢;rw [←hPL] at hPb h1P ⊢;have e1:HL.toArray.size=21:=by rw [List.size_toArray,hHL];rfl
 have e2:PL.toArray.size=9:=by rw [List.size_toArray,hPL];rfl
 have i1:(Tryz.prog.info? 26).map (·.size)=some HL.toArray.size:=by rw [e1];kernel_rfl
 have i2:(Tryz.prog.info? 28).map (·.size)=some PL.toArray.size:=by rw [e2];kernel_rfl
 have HHb:=zh hHb;have HPb:=zh hPb;have H1H:=zh h1H;have H1P:=zh h1P;have E1:=zh e1;have E2:=zh e2;have I1:=zh i1;have I2:=zh i2;clear hHb hPb h1H h1P e1 e2 i1 i2 hHL hPL
 go_enter Tryz.func31,Tryz.ntmps31
 go_wp2_with (first
  |(refine zBP rfl 26 _ rfl HL.toArray (Eq.trans (by kernel_rfl) HHb.out) ?_)
  |(refine zBP rfl 28 _ rfl PL.toArray (Eq.trans (by kernel_rfl) HPb.out) ?_)
  |(refine zY rfl 26 _ _ rfl w.heap.size HL.toArray rfl rfl (ZE _ (ZA w _)) I1.out (Eq.trans rfl E1.out.symm) H1H.out ?_))
 intro w2 hw2 ho2;have hP:=ho2.heap (ZA (w.alloc _) _) (by simp);rw [World.size_alloc] at hP;have O2:=zh ((((Only.refl [] w).alloc _).alloc _).trans' ho2 (fun i hi=> .inr (by simp at hi;omega)));have W2:=zh hw2;clear hw2 ho2
 go_wp2_with (refine zY rfl 28 _ _ rfl (w.heap.size+1) PL.toArray rfl rfl hP I2.out (Eq.trans rfl E2.out.symm) H1P.out ?_)
 intro w3 hw3 ho3;have O3:=zh (O2.out.trans' ho3 (fun i hi=> .inr (by simp at hi;omega)));have hh3:=ho3.heap W2.out (by simp);clear ho3 hP;go_wp2;refine zIx rfl w.heap.size (w.heap.size+1) rfl rfl hh3 hw3 Tryz.underlying26 rfl I1.out Tryz.underlying28 rfl I2.out rfl ?_;exact ⟨rfl,O3.out⟩
theorem zEl {HL PL:List Value} {wide:Int} {w:World}:Calls Tryz.prog 12 #[.pointer none,.agg HL.toArray,.agg PL.toArray,.int .i64 wide] w fun e w'=>e=.returned (.tuple #[.pointer none,.int .i64 1])∧Only [] w w':=by
 have O1:=zh (((Only.refl [] w).alloc (.cells HL.toArray 26)).alloc (.cells PL.toArray 28))
 go_enter Tryz.func12,Tryz.ntmps12
 go_wp2;go_ret2;exact ⟨rfl,O1.out⟩
def awY:Nat→Int:=fun j=>if j=434 then 3 else dcY 26 j
def awM:MbN:=⟨awY,fun _=>0⟩
theorem zCl {j:Nat} (h:j≠0∧j≠18∧j≠49∧j≠434):awY j=0:=by
 unfold awY dcY;rw [if_neg (by omega),if_neg (by omega),if_neg (by omega),if_neg (by omega)]
def awS:Sl:=⟨2,0,1,0,0,false⟩
theorem zNk:awM.ok awS where
 ty:=.inr (.inr rfl)
 body:=by
  refine ⟨.inr (.inr (.inr (.inl rfl))),?_,?_,?_,fun e=>absurd e (show (1:Int)≠0 by decide),fun _=>⟨(show (0:Int)≤2∧(2:Int)≤3 by decide),(show (0:Int)≤0∧(0:Int)≤3 by decide)⟩,fun e=>absurd e (show (1:Int)≠2 by decide),fun e=>absurd e (show (1:Int)≠3 by decide)⟩
  ·exact ⟨.inr (zAy.2 fun i hi=>zCl (by omega)),.inr (.inl rfl),.inl rfl,.inr rfl,.inr rfl⟩
  ·show (if zAg 1 0=true then (0:Int)≤26∧(26:Int)≤51 else (26:Int)=0)
   rw [if_pos (by decide)]
   decide
  ·refine (zJ (L:=0) (G:=0) (by decide) (by decide) rfl).2 ⟨fun _=> .inl rfl,fun b hb=>?_,fun k hk=>?_⟩
   ·have h:∀ i,i<16→awY (50+b*16+i)=0:=fun i hi=>zCl (by omega)
    refine ⟨fun _=>h,fun _=>h 0 (by decide),fun i hi=>?_⟩
    show -32767≤awY _∧awY _≤32767
    rw [h i hi];decide
   ·refine ⟨fun hn i hi=>?_,fun h0 i hi=>zCl (by omega),fun i hi=>?_⟩
    ·have:k≠0:=fun e=>hn (.inl ⟨e,rfl⟩)
     exact zCl (by omega)
    ·show -32767≤awY _∧awY _≤32767
     by_cases h:434+k*16+i=434
     ·rw [h];decide
     ·rw [zCl (by omega)];decide
 parts:=fun _ i hi=>zCl (by omega)
 inter:=fun h=>absurd h (show (1:Int)≠4 by decide)
 pcm:=fun _ _=>(show (0:Int)≤0∧(0:Int)≤255 by decide)
theorem zIn {w:World} (hA:Asc w):Calls Tryz.prog 11 #[] w fun e w'=>e=.returned (.bool true)∧Only [] w w':=by
 have htiny:=fun wx=>zMN wx
 have h1H:=zKP 1 26;have h1P:=zIL false;obtain ⟨HL,hHL⟩:∃ HL,HL=hdL (hdQ 1 26):=⟨_,rfl⟩;obtain ⟨PL,hPL⟩:∃ PL,PL=zNN false:=⟨_,rfl⟩;obtain ⟨T,hT⟩:∃ T,T=zCv false awS 26 [] [awM]:=⟨_,rfl⟩;have hok:∀ m∈[awM],m.ok awS:=fun m hm=>by rw [List.mem_singleton.1 hm];exact zNk
 have HNW:Hid (∀ wx bb,Asc wx→0<bb→WrIs wx bb (.slice none 0 0) []→Calls Tryz.prog 12 #[.pointer (some ⟨bb,0,none⟩),.agg HL.toArray,.agg PL.toArray,.int .i64 1] wx (zN7 wx (hdQ 1 26) awS 26 [awM] T [bb])):=zh (fun wx bb h1x h2x h3x=>by
  rw [hHL,hPL,hT];exact zF0 (s:=awS) (ov:=.slice none 0 0) h1x (fun gx hg=>by simp [Value.ownBlock] at hg;omega) h3x (by decide) rfl (zL3 1 26) rfl (by decide) (by decide) (by decide) (by decide) (by decide) (by decide) (by decide) hok)
 have HNR:Hid (∀ wx,Asc wx→Calls Tryz.prog 17 #[.string T,.int .i64 0,.agg HL.toArray,.agg PL.toArray,.int .i64 1] wx (zOA wx (hdQ 1 26) awS 26 [awM])):=zh (fun wx h1x=>by
  rw [hHL,hPL,hT];exact zF1 (s:=awS) (bs:=[]) h1x (fun b hb=>absurd hb (by simp)) (by decide) rfl (zL3 1 26) rfl (by decide) (by decide) (by decide) (by decide) (by decide) (by decide) rfl (by decide) hok)
 rw [←hHL] at h1H;rw [←hPL] at h1P;rw [←hHL,←hPL] at htiny;have e1:HL.toArray.size=21:=by rw [List.size_toArray,hHL];rfl
 have e2:PL.toArray.size=9:=by rw [List.size_toArray,hPL];rfl
 have Hhi:=zh (show (Tryz.prog.info? 26).map (·.size)=some HL.length by rw [←List.size_toArray,e1];kernel_rfl);have Hpl:=zh (show (Tryz.prog.info? 28).map (·.size)=some PL.length by rw [←List.size_toArray,e2];kernel_rfl);have HHj:=zh (show (Tryz.prog.info? 26).map (·.size)=some HL.toArray.size by rw [List.size_toArray];exact Hhi.out);have HPj:=zh (show (Tryz.prog.info? 28).map (·.size)=some PL.toArray.size by rw [List.size_toArray];exact Hpl.out);have H1H:=zh h1H;have H1P:=zh h1P;have E1:=zh e1;have E2:=zh e2;have HT:=zh htiny;have HA:=zh hA;have Hok:=zh hok;clear h1H h1P e1 e2 hHL hPL hT hok htiny hA
 go_enter Tryz.func11,Tryz.ntmps11
 go_wp2_with fail
 refine (HT.out w).mono ?_;rintro e w1 ⟨rfl,o1⟩;have O1:=zh o1;clear o1
 go_wp2_with (refine zY rfl 26 _ _ rfl w1.heap.size HL.toArray rfl rfl (ZE _ (ZA w1 _)) HHj.out (Eq.trans rfl E1.out.symm) H1H.out ?_)
 intro w2 hw2 ho2;have hP:=ho2.heap (ZA (w1.alloc _) _) (by simp);rw [World.size_alloc] at hP;have O2:Hid (Only [] w1 w2):=zh ((((Only.refl [] w1).alloc _).alloc _).trans' ho2 (fun i hi=> .inr (by simp at hi;omega)));have W2:=zh hw2;clear hw2 ho2
 go_wp2_with (refine zY rfl 28 _ _ rfl (w1.heap.size+1) PL.toArray rfl rfl hP HPj.out (Eq.trans rfl E2.out.symm) H1P.out ?_)
 intro w3 hw3 ho3;obtain ⟨B1,hB1⟩:∃ B1,B1=w1.heap.size:=⟨_,rfl⟩;obtain ⟨B2,hB2⟩:∃ B2,B2=w1.heap.size+1:=⟨_,rfl⟩;have hh3:=ho3.heap W2.out (by simp);have O3:Hid (Only [] w w3):=zh (O1.out.trans (O2.out.trans' ho3 (fun i hi=> .inr (by simp at hi;omega))));have l1:=lt_of_block hh3;have l2:=lt_of_block hw3;rw [←hB2] at hw3 l2;rw [←hB1] at hh3 l1;rw [←hB2,←hB1];have HrH:Hid (w3.rangeAt B1 0 HL):=zh (fun j v hj=>by rw [Nat.zero_add,zA hh3];simpa using hj);have HrP:Hid (w3.rangeAt B2 0 PL):=zh (fun j v hj=>by rw [Nat.zero_add,zA hw3];simpa using hj);clear hw3 ho3 hh3 hP W2 O2 O1 hB1 hB2;obtain ⟨ZL,hZL⟩:∃ ZL,ZL=(fnA 483 (mbV (dcY 26))).toList:=⟨_,rfl⟩;have eZ:fnA 483 (mbV (dcY 26))=ZL.toArray:=by rw [hZL,Zq]
 have hb:=zLl 26;have hZ1:=zMl (dcY 26);rw [eZ] at hb hZ1;have hZi:(Tryz.prog.info? 51).map (·.size)=some ZL.toArray.size:=by rw [List.size_toArray,hZL,zM];kernel_rfl
 have hZ2:Tryz.zeroCells51.size=ZL.toArray.size:=(show Tryz.zeroCells51.size=483 by kernel_rfl).trans (show ZL.toArray.size=483 by rw [List.size_toArray,hZL,zM]).symm;have HZb:=zh hb;have HZ1:=zh hZ1;have HZi:=zh hZi;have HZ2:=zh hZ2;have HeZ:=zh eZ;clear hb hZ1 hZi hZ2 eZ hZL;have Hw3:=O3.out.size
 go_wp2_with (first
  |(refine zBP rfl 51 _ rfl ZL.toArray (Eq.trans (by kernel_rfl) HZb.out) ?_)
  |(refine zY rfl 51 _ _ rfl w3.heap.size ZL.toArray rfl rfl (ZA w3 _) HZi.out HZ2.out HZ1.out ?_))
 intro w4 hw4 ho4;have hB4:BlkIn w4 w3.heap.size 483 51 (mbV (dcY 26)):=by unfold BlkIn;rw [HeZ.out];exact hw4
 have O4:Hid (Only [] w3 w4):=zh (((Only.refl [] w3).alloc _).trans' ho4 (fun i hi=> .inr (by simp at hi;omega)));have c434:w4.cell? ⟨w3.heap.size,434,none⟩=some (.int .i64 0):=by rw [hB4.cell 434 (by decide)];rfl
 have z434:=hB4.free 434;have HB5:=zh (hB4.set 434 (.int .i64 3));have O5:Hid (Only [] w3 (w4.setCell ⟨w3.heap.size,434,none⟩ (.int .i64 3))):=zh (O4.out.setCell (.inr (by simp)) _);clear hw4 ho4 hB4 O4 HZb HZ1 HZi HZ2 HeZ
 go_wp2_with fail
 generalize w4.setCell ⟨w3.heap.size,434,none⟩ (.int .i64 3)=w5 at*;obtain ⟨M,hM⟩:∃ M,M=w3.heap.size:=⟨_,rfl⟩;rw [←hM] at HB5 l1 l2;rw [←hM];obtain ⟨X,hX⟩:∃ X,X=upd (mbV (dcY 26)) 434 (.int .i64 3):=⟨_,rfl⟩;rw [←hX] at HB5;have HX:Hid (∀ wx,zNs wx X awM):=zh (fun wx=>by
  refine ⟨fun j hj=>?_,none,0,0,by rw [hX];rfl,rfl,fun h=>absurd h (show (1:Int)≠2 by decide)⟩;rw [hX]
  show _=Value.int .i64 (awY j)
  by_cases h:j=434
  ·rw [h,ZK];rfl
  ·rw [ZN _ _ h,zNR hj];unfold awY;rw [if_neg h])
 have H482:Hid (X 482=.slice none 0 0):=zh (by rw [hX];rfl);clear hX c434 z434;have Ow5:Hid (Only [] w w5):=zh (O3.out.trans O5.out);have HA5:=zh (HA.out.only Ow5.out (by simp));have hrH5:w5.rangeAt B1 0 HL:=fun j v hj=>O5.out.cell (HrH.out j v hj) (by simp)
 have hrP5:w5.rangeAt B2 0 PL:=fun j v hj=>O5.out.cell (HrP.out j v hj) (by simp)
 have HrH5:=zh hrH5;have HrP5:=zh hrP5;have hm5:M<w5.heap.size:=HB5.out.lt;clear hrH5 hrP5 HrH HrP O3 O5 hM Hw3;refine zH (by kernel_rfl) (fun w'=>w'.rangeAt B1 0 HL∧w'.rangeAt B2 0 PL) 8 ?_;have hS0:(fun w':World=>w'.rangeAt B1 0 HL∧w'.rangeAt B2 0 PL) w5.drew:=⟨HrH5.out,HrP5.out⟩;refine AnyL.tl 1 rfl (yieldsIf_load_mid (by rfl) _ _ rfl B1 0 rfl HL _ (fun w' h=>h.1) Tryz.underlying26 rfl Hhi.out) ?_;refine AnyL.tl 2 rfl (yieldsIf_load_mid (by rfl) _ _ rfl B2 0 rfl PL _ (fun w' h=>h.2) Tryz.underlying28 rfl Hpl.out) ?_;refine AnyL.on 0 (h:=fun K hK=>?_);go_simp;refine (zGp _).mono ?_;rintro e w6 ⟨rfl,k1,k2,k3⟩;have hSw6:(fun w':World=>w'.rangeAt B1 0 HL∧w'.rangeAt B2 0 PL) w6:=⟨fun j v hj=>k2.cell (hS0.1 j v hj) (by simp),fun j v hj=>k2.cell (hS0.2 j v hj) (by simp)⟩;have O6:Hid (Only [] w5 w6):=zh ((Only.refl [] w5).drew.trans k2);have K1:=zh k1
 have hbb:w5.heap.size<w6.heap.size:=by rw [k3];exact Nat.lt_succ_self _
 refine hK _ _ (fun _=>hSw6) (fun hKq=>?_);clear hK K hKq k1 k2 k3
 try simp only [zpt]
 refine AnyL.on 3 (h:=fun K hK=>?_);go_simp;refine (HNW.out w6 _ (HA5.out.only O6.out (by simp)) (show _<w5.heap.size from HA5.out.lt) K1.out).mono ?_;rintro e w7 ⟨wb,c,sb,G,rfl,o7,hb⟩;have hSw7:(fun w':World=>w'.rangeAt B1 0 HL∧w'.rangeAt B2 0 PL) w7:=⟨fun j v hj=>o7.cell (hSw6.1 j v hj) (by simp;omega),fun j v hj=>o7.cell (hSw6.2 j v hj) (by simp;omega)⟩;have O7:Hid (Only [] w5 w7):=zh (O6.out.trans' o7 (fun i hi=> .inr (by simp at hi;omega)));have hGn:Hid (∀ i∈G,w5.heap.size≤i):=zh (fun i hi=>by
  rcases hb.new i hi with h|h
  ·simp at h;omega
  ·omega)
 have HBg:=zh hb;refine hK _ _ (fun _=>hSw7) (fun hKq=>?_);clear hK K hKq o7 hb
 try simp only [zpt]
 refine AnyL.tk 4 (h:=?_);refine AnyL.tk 5 (h:=?_);refine AnyL.tk 6 (h:=?_);refine AnyL.tk 7 (h:=?_);refine AnyL.on 8 (h:=fun K hK=>?_);go_simp;refine hK _ _ (fun _=>hSw7) (fun hKq=>?_);clear hK K hKq
 try simp only [zpt]
 refine AnyL.dn (h:=?_);clear O6 K1 hS0 hSw6 hSw7 hbb HNW;obtain ⟨XL,hXL⟩:∃ XL,XL=(fnA 483 X).toList:=⟨_,rfl⟩;have eX:fnA 483 X=XL.toArray:=by rw [hXL,Zq]
 have HeX:=zh eX;have HXi:=zh (show (Tryz.prog.info? 51).map (·.size)=some XL.length by rw [hXL,zM];kernel_rfl);have HX483:=zh (show XL.length=483 by rw [hXL,zM]);have hrX:w5.rangeAt M 0 XL:=by rw [hXL];exact HB5.out.range
 have HrX:=zh hrX;have HrX7:Hid (w7.rangeAt M 0 XL):=zh (fun j v hj=>O7.out.cell (hrX j v hj) (by simp));have Hnext:=zh (zJZ HBg.out.ok HBg.out.T HBg.out.pv HBg.out.wr HBg.out.cell HBg.out.along (show [awM][0]? =some awM from rfl) Hok.out (by decide) (show HdOk awS (hdQ 1 26) 1 from ⟨rfl,rfl,rfl,rfl,rfl,rfl,by decide,by decide,by decide⟩) (by decide) (by decide) (HX.out w7));rw [eX] at Hnext;clear hrX eX hXL
 go_wp2_with (with_reducible refine wpList_load_mid rfl 51 _ rfl M 0 rfl XL _ HrX7.out Tryz.underlying51 rfl HXi.out ?_)
 refine Hnext.out.mono ?_;rintro e w8 ⟨rfl,G2,q1,q2,q3⟩;have O8:Hid (Only [] w5 w8):=zh (O7.out.trans' q2 (fun i hi=> .inr (hGn.out i hi)));have hGn2:Hid (∀ i∈G2,w5.heap.size≤i):=zh (fun i hi=>by
  rcases q3 i hi with h|h
  ·exact hGn.out i h
  ·have:=O7.out.size;omega)
 have Hend:=zh (HBg.out.ends rfl w8 G2 q1);clear q1 q2 q3 Hnext HrX7
 go_wp2_with fail
 refine Hend.out.mono ?_;rintro e w9 ⟨rfl,q1,q2⟩;have O9:Hid (Only [] w5 w9):=zh (O8.out.trans' q1 (fun i hi=> .inr (hGn2.out i hi)));have HBy:=zh q2;have HrH9:Hid (w9.rangeAt B1 0 HL):=zh (fun j v hj=>O9.out.cell (HrH5.out j v hj) (by simp));have HrP9:Hid (w9.rangeAt B2 0 PL):=zh (fun j v hj=>O9.out.cell (HrP5.out j v hj) (by simp));have HA9:=zh (HA5.out.only O9.out (by simp));clear q1 q2 Hend O8
 go_wp2_with fail
 refine zH (by kernel_rfl) (fun w'=>w'.rangeAt B1 0 HL∧w'.rangeAt B2 0 PL) 9 ?_;have hS0:(fun w':World=>w'.rangeAt B1 0 HL∧w'.rangeAt B2 0 PL) w9.drew:=⟨HrH9.out,HrP9.out⟩;refine AnyL.tk 0 (h:=?_);refine AnyL.tl 2 rfl (yieldsIf_load_mid (by rfl) _ _ rfl B1 0 rfl HL _ (fun w' h=>h.1) Tryz.underlying26 rfl Hhi.out) ?_;refine AnyL.tl 3 rfl (yieldsIf_load_mid (by rfl) _ _ rfl B2 0 rfl PL _ (fun w' h=>h.2) Tryz.underlying28 rfl Hpl.out) ?_;refine AnyL.on 1 (h:=fun K hK=>?_);go_simp;refine (HBy.out _ (Only.refl [] w9).drew).mono ?_;rintro e w10 ⟨rfl,o10⟩;have hSw10:(fun w':World=>w'.rangeAt B1 0 HL∧w'.rangeAt B2 0 PL) w10:=⟨fun j v hj=>o10.cell (hS0.1 j v hj) (by simp),fun j v hj=>o10.cell (hS0.2 j v hj) (by simp)⟩;have O10:Hid (Only [] w9 w10):=zh ((Only.refl [] w9).drew.trans o10);refine hK _ _ (fun _=>hSw10) (fun hKq=>?_);clear hK K hKq o10
 try simp only [zpt]
 refine AnyL.on 4 (h:=fun K hK=>?_);go_simp;refine (HNR.out w10 (HA9.out.only O10.out (by simp))).mono ?_;rintro e w11 ⟨rb,cr,sr,Gr,rfl,o11,hb11⟩;have hSw11:(fun w':World=>w'.rangeAt B1 0 HL∧w'.rangeAt B2 0 PL) w11:=⟨fun j v hj=>o11.cell (hSw10.1 j v hj) (by simp),fun j v hj=>o11.cell (hSw10.2 j v hj) (by simp)⟩;have O11:Hid (Only [] w5 w11):=zh ((O9.out.trans O10.out).trans o11);have HR:=zh hb11;have HRn:Hid (∀ i∈Gr,w5.heap.size≤i):=zh (fun i hi=>by have:=hb11.new i hi;have:=(O9.out.trans O10.out).size;omega);refine hK _ _ (fun _=>hSw11) (fun hKq=>?_);clear hK K hKq o11 hb11 O10 HA9 hS0 hSw10 HrH9 HrP9 HBy
 try simp only [zpt]
 refine AnyL.tk 5 (h:=?_);refine AnyL.tk 6 (h:=?_);refine AnyL.tk 7 (h:=?_);refine AnyL.tk 8 (h:=?_);refine AnyL.on 9 (h:=fun K hK=>?_);go_simp;refine hK _ _ (fun _=>hSw11) (fun hKq=>?_);clear hK K hKq
 try simp only [zpt]
 refine AnyL.dn (h:=?_);clear hSw11 HNR;have Hrd:=zh (zJu HR.out.ok HR.out.T HR.out.pv HR.out.wr HR.out.cell HR.out.along (show [awM][0]? =some awM from rfl) Hok.out (by decide) (show HdOk awS (hdQ 1 26) 1 from ⟨rfl,rfl,rfl,rfl,rfl,rfl,by decide,by decide,by decide⟩) (by decide) (by decide))
 go_wp2_with fail
 refine Hrd.out.mono ?_;rintro e w12 ⟨Xf,G3,rfl,q1,q2,q3,q4⟩;have O12:Hid (Only [] w5 w12):=zh (O11.out.trans' q2 (fun i hi=> .inr (HRn.out i hi)));have hGn3:Hid (∀ i∈G3,w5.heap.size≤i):=zh (fun i hi=>by
  rcases q3 i hi with h|h
  ·exact HRn.out i h
  ·have:=O11.out.size;omega)
 obtain ⟨YL,hYL⟩:∃ YL,YL=(fnA 483 Xf).toList:=⟨_,rfl⟩;have eY:fnA 483 Xf=YL.toArray:=by rw [hYL,Zq]
 have hY1:=q4.one;rw [eY] at hY1 ⊢;have HY1:=zh hY1;have HYi:=zh (show (Tryz.prog.info? 51).map (·.size)=some YL.length by rw [hYL,zM];kernel_rfl);have HYj:=zh (show (Tryz.prog.info? 51).map (·.size)=some YL.toArray.size by rw [List.size_toArray];exact HYi.out);have HYz:=zh ((show Tryz.zeroCells51.size=483 by kernel_rfl).trans (show YL.toArray.size=483 by rw [List.size_toArray,hYL,zM]).symm);have Hsame:Hid (∀ wx,Calls Tryz.prog 20 #[.agg YL.toArray,.agg XL.toArray] wx fun e w'=>e=.returned (.bool true)∧Only [] wx w'):=zh (fun wx=>by
  rw [←eY,←HeX.out];exact zJq (fun j hj=>(q4.cell j hj).trans (by rw [zNO (show awM.y 0≠3∧awM.y 0≠4∧awM.y 0≠5 by decide)])) (HX.out wx).cell (s:=ByteArray.empty) (fun wy _=>by rw [q4.nil (show (1:Int)≠2 by decide)];exact zDE wy 0 0) (fun wy _=>by rw [H482.out];exact zDE wy _ _))
 have Hend2:=zh (fun w1 G1=>HR.out.ends w1 G1);have Hq1:=zh q1;clear q1 q2 q3 q4 hY1 eY hYL Hrd
 go_wp2_with (refine zY rfl 51 _ _ rfl w12.heap.size YL.toArray rfl rfl (ZA w12 _) HYj.out HYz.out HY1.out ?_)
 intro w13 hw13 ho13;obtain ⟨YB,hYB⟩:∃ YB,YB=w12.heap.size:=⟨_,rfl⟩;rw [←hYB] at hw13 ho13;rw [←hYB];have O13:Hid (Only [] w12 w13):=zh (((Only.refl [] w12).alloc _).trans' ho13 (fun i hi=> .inr (by simp at hi;omega)));have HrY:Hid (w13.rangeAt YB 0 YL):=zh (fun j v hj=>by rw [Nat.zero_add,zA hw13];simpa using hj);have hYl:=lt_of_block hw13;have Hal13:=zh (Hq1.out.only HR.out.ok O13.out (by simp));have hYn:Hid (∀ i∈G3,i≠YB):=zh (fun i hi e=>by have:=Hq1.out.low HR.out.ok i hi;omega);have Hend3:=zh (Hend2.out w13 G3 Hal13.out);clear hw13 ho13 Hq1 Hal13 Hend2 HY1 HYj HYz hYB
 go_wp2_with fail
 refine Hend3.out.mono ?_;rintro e w14 ⟨rfl,o14⟩;have O14:Hid (Only [] w5 w14):=zh ((O12.out.trans O13.out).trans' o14 (fun i hi=> .inr (hGn3.out i hi)));have HrY14:Hid (w14.rangeAt YB 0 YL):=zh (fun j v hj=>o14.cell (HrY.out j v hj) (fun e=>hYn.out _ e rfl));have HrH14:Hid (w14.rangeAt B1 0 HL):=zh (fun j v hj=>O14.out.cell (HrH5.out j v hj) (by simp));have HrP14:Hid (w14.rangeAt B2 0 PL):=zh (fun j v hj=>O14.out.cell (HrP5.out j v hj) (by simp));have HrX14:Hid (w14.rangeAt M 0 XL):=zh (fun j v hj=>O14.out.cell (HrX.out j v hj) (by simp));clear o14 Hend3 O13 O12 HrY
 go_wp2_with (with_reducible first
  |refine wpList_load_mid rfl 26 _ rfl B1 0 rfl HL _ HrH14.out Tryz.underlying26 rfl Hhi.out ?_
  |refine wpList_load_mid rfl 28 _ rfl B2 0 rfl PL _ HrP14.out Tryz.underlying28 rfl Hpl.out ?_)
 refine (zEl).mono ?_;rintro e w15 ⟨rfl,o15⟩;have O15:Hid (Only [] w w15):=zh ((Ow5.out.trans O14.out).trans o15);have HrY15:Hid (w15.rangeAt YB 0 YL):=zh (fun j v hj=>o15.cell (HrY14.out j v hj) (by simp));have HrX15:Hid (w15.rangeAt M 0 XL):=zh (fun j v hj=>o15.cell (HrX14.out j v hj) (by simp));clear o15 O14 HrY14 HrX14 HrH14 HrP14
 go_wp2_with (refine zAQ 55 rfl ?_)
 refine ⟨?_⟩
 iterate 3 (refine wpList_step (fun K hK=>?_);rw [if_pos (by rfl)];go_simp;refine hK _ _ ?_;clear hK K)
 refine wpList_nil ?_
 iterate 2 go_step
 refine wp_seq ?_;refine wp_region_lit ?_
 iterate 1 (refine wpList_step (fun K hK=>?_);rw [if_pos (by rfl)];go_simp;refine hK _ _ ?_;clear hK K)
 (refine wpList_step (fun K hK=>?_);rw [if_pos (by rfl)];go_simp;refine (zBI _ _).mono ?_;rintro e9 w9 ⟨h9,h8⟩;subst h9;subst h8;dsimp only;refine hK _ _ ?_;clear hK K)
 iterate 3 (refine wpList_step (fun K hK=>?_);rw [if_pos (by rfl)];go_simp;refine hK _ _ ?_;clear hK K)
 (refine wpList_step (fun K hK=>?_);rw [if_pos (by rfl)];go_simp;refine (zBI _ _).mono ?_;rintro e9 w9 ⟨h9,h8⟩;subst h9;subst h8;dsimp only;refine hK _ _ ?_;clear hK K)
 iterate 4 (refine wpList_step (fun K hK=>?_);rw [if_pos (by rfl)];go_simp;refine hK _ _ ?_;clear hK K)
 (refine wpList_step (fun K hK=>?_);rw [if_pos (by rfl)];go_simp;refine (zBI _ _).mono ?_;rintro e9 w9 ⟨h9,h8⟩;subst h9;subst h8;dsimp only;refine hK _ _ ?_;clear hK K)
 iterate 4 (refine wpList_step (fun K hK=>?_);rw [if_pos (by rfl)];go_simp;refine hK _ _ ?_;clear hK K)
 (refine wpList_step (fun K hK=>?_);rw [if_pos (by rfl)];go_simp;refine (zBI _ _).mono ?_;rintro e9 w9 ⟨h9,h8⟩;subst h9;subst h8;dsimp only;refine hK _ _ ?_;clear hK K)
 iterate 4 (refine wpList_step (fun K hK=>?_);rw [if_pos (by rfl)];go_simp;refine hK _ _ ?_;clear hK K)
 (refine wpList_step (fun K hK=>?_);rw [if_pos (by rfl)];go_simp;refine (zBI _ _).mono ?_;rintro e9 w9 ⟨h9,h8⟩;subst h9;subst h8;dsimp only;refine hK _ _ ?_;clear hK K)
 iterate 3 (refine wpList_step (fun K hK=>?_);rw [if_pos (by rfl)];go_simp;refine hK _ _ ?_;clear hK K)
 refine ZQ (by rfl) 51 _ rfl YB 0 rfl YL _ HrY15.out Tryz.underlying51 rfl HYi.out ?_;simp only [Act.put,List.setIfInBounds_toArray,List.set_cons_zero,List.set_cons_succ];refine ZQ (by rfl) 51 _ rfl M 0 rfl XL _ HrX15.out Tryz.underlying51 rfl HXi.out ?_;simp only [Act.put,List.setIfInBounds_toArray,List.set_cons_zero,List.set_cons_succ];refine wpList_step (fun K hK=>?_);rw [if_pos (by rfl)];go_simp;refine (Hsame.out _).mono ?_;rintro _ w16 ⟨rfl,o16⟩;dsimp only;refine hK _ _ ?_;clear hK K;have O16:=zh (O15.out.trans o16);clear o16
 iterate 3 (refine wpList_step (fun K hK=>?_);rw [if_pos (by rfl)];go_simp;refine hK _ _ ?_;clear hK K)
 (refine wpList_step (fun K hK=>?_);rw [if_pos (by rfl)];go_simp;refine (zBI _ _).mono ?_;rintro e9 w9 ⟨h9,h8⟩;subst h9;subst h8;dsimp only;refine hK _ _ ?_;clear hK K)
 iterate 4 (refine wpList_step (fun K hK=>?_);rw [if_pos (by rfl)];go_simp;refine hK _ _ ?_;clear hK K)
 (refine wpList_step (fun K hK=>?_);rw [if_pos (by rfl)];go_simp;refine (zBI _ _).mono ?_;rintro e9 w9 ⟨h9,h8⟩;subst h9;subst h8;dsimp only;refine hK _ _ ?_;clear hK K)
 iterate 3 (refine wpList_step (fun K hK=>?_);rw [if_pos (by rfl)];go_simp;refine hK _ _ ?_;clear hK K)
 refine wpList_nil ?_;go_wp2;go_ret;exact ⟨rfl,O16.out⟩
theorem walk_back {hd:Nat→Value} {PL:List Value} {t a0 a1 qp wide:Int} {sp cabac:Bool} {v:Value} {n:Nat} {X:Nat→Nat→Value} {m:Nat→MbN} {len:Nat→Nat} {w:World} (hA:Asc w) (h2:hd 2=.int .i64 t) (h6:hd 6=.bool sp) (h7:hd 7=.int .i64 a0) (h8:hd 8=.int .i64 a1) (h17:hd 17=.int .i64 qp)
 (hPl:(Tryz.prog.info? 28).map (·.size)=some PL.length) (hp:PL[0]? =some (.bool cabac)) (hM:zMB w v n X m len):
 Calls Tryz.prog 3 #[.agg (hdL hd).toArray,.agg PL.toArray,.int .i64 wide,v] w fun e w'=>e=.returned (.bool true)∧Only [] w w':=by
 obtain ⟨K,hK⟩:∃ K:Nat,K=min n 10:=⟨_,rfl⟩;obtain ⟨hd',hhd⟩:∃ f,f=upd (upd hd 0 (.int .i64 0)) 1 (.int .i64 K):=⟨_,rfl⟩;have hset:=zNZ hd (.int .i64 0) (.int .i64 K);rw [←hhd] at hset;have hhi:zCb hd' (0:Nat) K t a0 a1 qp:=⟨by rw [hhd];rfl,by rw [hhd];rfl,by rw [hhd];exact h2,by rw [hhd];exact h7,by rw [hhd];exact h8,by rw [hhd];exact h17⟩;have hh6:hd' 6=.bool sp:=by rw [hhd];exact h6
 obtain ⟨H0,hH0⟩:∃ L,L=(hdL hd).toArray:=⟨_,rfl⟩;obtain ⟨HL,hHL⟩:∃ L,L=hdL hd':=⟨_,rfl⟩;rw [←hH0,←hHL] at hset;have hs0:H0.size=21:=by rw [hH0];rfl
 have HHi:=zh (show (Tryz.prog.info? 26).map (·.size)=some HL.length by rw [hHL];show _=some 21;kernel_rfl);obtain ⟨ao,cap,rfl,hsl⟩:=hM.sl;have hB0:=ZE (.cells PL.toArray 28) (ZA w (.cells H0 26));have hB1:=ZA (w.alloc (.cells H0 26)) (.cells PL.toArray 28);rw [World.size_alloc] at hB1;have HO:=zh (((Only.refl [] w).alloc (.cells H0 26)).alloc (.cells PL.toArray 28));have hAl:=hA.lt;have HAW:=zh (fun wx (h:Asc wx)=>zIn h);have HA:=zh (hA.only HO.out (by simp));have HB0:=zh hB0;have HB1:=zh hB1;have HM:=zh hM.each;have Hsl:=zh hsl;have Hset:=zh hset;have Hs0:=zh hs0;have Hhi:=zh hhi;have Hh6:=zh hh6;have HK:=zh hK;have HHL:=zh hHL;have Hpl:=zh hPl;have Hp:=zh hp;rw [←hH0];clear hA h2 h6 h7 h8 h17 hPl hp hM hK hhd hset hhi hh6 hH0 hHL hs0 hB0 hB1 hsl
 go_enter Tryz.func3,Tryz.ntmps3
 go_wp2_with fail
 generalize (w.alloc (.cells H0 26)).alloc (.cells PL.toArray 28)=wa at*;refine (HAW.out wa HA.out).mono ?_;rintro e w1 ⟨rfl,o1⟩;have hB:=o1.heap HB0.out (by simp);have c0:=zA hB 0;have z0:=ZB hB 0;have HBs:=zh (zB (i:=0) (.int .i64 0) hB);have O1:=zh o1;have OS0:=zh ((Only.refl [w.heap.size] w1).setCell (p:=⟨w.heap.size,0,none⟩) (.inl (by simp)) (.int .i64 0));obtain ⟨u0,hu0⟩:∃ u,H0[0]? =some u:=⟨_,Array.getElem?_eq_getElem (by rw [Hs0.out];decide)⟩;obtain ⟨u1,hu1⟩:∃ u,H0[1]? =some u:=⟨_,Array.getElem?_eq_getElem (by rw [Hs0.out];decide)⟩;rw [hu0] at c0;clear o1 hB HAW
 go_upto_region 4 with fail
 have c1:(w1.setCell ⟨w.heap.size,0,none⟩ (.int .i64 0)).cell? ⟨w.heap.size,1,none⟩=some u1:=by rw [zA HBs.out,Array.getElem?_setIfInBounds_ne (by decide),hu1]
 have z1:=ZB HBs.out 1;have HB2:Hid (((w1.setCell ⟨w.heap.size,0,none⟩ (.int .i64 0)).setCell ⟨w.heap.size,1,none⟩ (.int .i64 K)).heap[w.heap.size]? =some (.cells HL.toArray 26 (0,0))):=zh (by rw [←Hset.out];exact zB (i:=1) (.int .i64 K) HBs.out);have OS1:Hid (Only [w.heap.size] w1 ((w1.setCell ⟨w.heap.size,0,none⟩ (.int .i64 0)).setCell ⟨w.heap.size,1,none⟩ (.int .i64 K))):=zh (OS0.out.setCell (.inl (by simp)) _);generalize w1.setCell ⟨w.heap.size,0,none⟩ (.int .i64 0)=wb at*;clear c0 z0 hu0 hu1 HBs
 go_cut [] (fun wx=>Hid (wx.heap[w.heap.size]? =some (.cells HL.toArray 26 (0,0))∧Only [w.heap.size] w1 wx))
 case first=>
  go_wp2_with fail
  go_meet;rw [show min (n:Int) 10=(K:Int) by rw [HK.out];omega];exact zh ⟨HB2.out,OS1.out⟩
 case rest=>
  have HrH:Hid (wc.rangeAt w.heap.size 0 HL):=zh (zAA hcut.out.1);have OA1:Hid (Only [] wa w1):=zh O1.out;have HrP:Hid (wc.rangeAt (w.heap.size+1) 0 PL):=zh (zAA (hcut.out.2.heap (O1.out.heap HB1.out (by simp)) (by simp)));have hws:=HO.out.size;have hbw:=lt_of_block (hcut.out.2.heap (O1.out.heap HB1.out (by simp)) (by simp));have Ow:Hid (Only [] w wc):=zh ((HO.out.trans O1.out).trans' hcut.out.2 (fun i hi=> .inr (by simp at hi;omega)));have HAc:=zh ((HA.out.only O1.out (by simp)).only hcut.out.2 (by intro k hk;rw [List.mem_singleton.1 hk];exact hAl));have HBc:=zh hcut.out.1;clear HB2 OS1 OS0 c1 z1 hcut O1 OA1 HB0 HB1 HA hws
  go_upto_region 5 with fail
  by_cases hbg:zN4 (0:Nat) K t a0 a1 qp wide
  case neg=>
   have HBad:=zh (fun (wx:World) (bb:Nat)=>zEm (w:=wx) (bb:=bb) (Pc:=PL.toArray) Hhi.out hbg);rw [←HHL.out] at HBad;refine zH (by kernel_rfl) (fun w'=>w'.rangeAt w.heap.size 0 HL∧w'.rangeAt (w.heap.size+1) 0 PL) 9 ?_;have hS0:(fun w':World=>w'.rangeAt w.heap.size 0 HL∧w'.rangeAt (w.heap.size+1) 0 PL) wc.drew:=⟨HrH.out,HrP.out⟩;refine AnyL.tl 1 rfl (yieldsIf_load_mid (by rfl) _ _ rfl w.heap.size 0 rfl HL _ (fun w' h=>h.1) Tryz.underlying26 rfl HHi.out) ?_;refine AnyL.tl 2 rfl (yieldsIf_load_mid (by rfl) _ _ rfl (w.heap.size+1) 0 rfl PL _ (fun w' h=>h.2) Tryz.underlying28 rfl Hpl.out) ?_;refine AnyL.tk 3 (h:=?_);refine AnyL.on 0 (h:=fun K hK=>?_);go_simp;refine (zGp _).mono ?_;rintro e w2 ⟨rfl,k1,k2,k3⟩
   have hSw2:(fun w':World=>w'.rangeAt w.heap.size 0 HL∧w'.rangeAt (w.heap.size+1) 0 PL) w2:=⟨fun j v hj=>k2.cell (hS0.1 j v hj) (by simp),fun j v hj=>k2.cell (hS0.2 j v hj) (by simp)⟩;have O2:Hid (Only [] w w2):=zh (Ow.out.drew.trans k2);refine hK _ _ (fun _=>hSw2) (fun hKq=>?_);clear hK K hKq k1 k2 k3
   try simp only [zpt]
   refine AnyL.on 4 (h:=fun K hK=>?_);go_simp;refine (HBad.out w2 _).mono ?_;rintro e w3 ⟨rfl,o3⟩;have hSw3:(fun w':World=>w'.rangeAt w.heap.size 0 HL∧w'.rangeAt (w.heap.size+1) 0 PL) w3:=⟨fun j v hj=>o3.cell (hSw2.1 j v hj) (by simp),fun j v hj=>o3.cell (hSw2.2 j v hj) (by simp)⟩;have O3:Hid (Only [] w w3):=zh (O2.out.trans o3);refine hK _ _ (fun _=>hSw3) (fun hKq=>?_);clear hK K hKq o3
   try simp only [zpt]
   refine AnyL.tk 5 (h:=?_);refine AnyL.tk 6 (h:=?_);refine AnyL.tk 7 (h:=?_);refine AnyL.tk 8 (h:=?_);refine AnyL.on 9 (h:=fun K hK=>?_);go_simp;refine hK _ _ (fun _=>hSw3) (fun hKq=>?_);clear hK K hKq
   try simp only [zpt]
   refine AnyL.dn (h:=?_);clear hS0 hSw2 hSw3 HBad
   go_wp2_with fail
   refine (zBI _ _).mono ?_;rintro e w4 ⟨rfl,rfl⟩;go_wp2;go_ret;exact ⟨rfl,O3.out⟩
  case pos=>
   obtain ⟨wd,rfl⟩:∃ wd:Nat,wide=wd:=⟨wide.toNat,by have:=hbg.1.1;omega⟩;obtain ⟨s,hsd⟩:∃ s:Sl,s=⟨t,0,wd,a0,a1,sp⟩:=⟨_,rfl⟩;have hst:s.t=t∧s.f=0∧s.wide=wd∧s.a0=a0∧s.a1=a1∧s.sp=sp:=by rw [hsd];exact ⟨rfl,rfl,rfl,rfl,rfl,rfl⟩
   obtain ⟨e1,e2,e3,e4,e5,e6⟩:=hst;clear hsd;subst e1 e3 e4 e5 e6;have hK1:1≤K:=by have:=hbg.2.2.1;omega
   have ht3:s.t=0∨s.t=1∨s.t=2:=by have:=hbg.2.2.2.1;omega
   obtain ⟨k,hkK,hgood,hbadk⟩:=zHK (fun i=>zDp (m i).y (len i) s.t s.a0 s.a1) K;obtain ⟨ms,hms⟩:∃ ms,ms=(List.range k).map m:=⟨_,rfl⟩;have hml:ms.length=k:=by rw [hms];simp
   have hmi:∀ i,i<k→ms[i]? =some (m i):=fun i hi=>by rw [hms];simp [hi]
   obtain ⟨g,off,rfl,hrow⟩:=Hsl.out (by have:=HK.out;omega);have Hrow:=zh hrow;have hok:∀ x∈ms,x.ok s:=fun x hx=>by
    rw [hms] at hx;obtain ⟨i,hi,rfl⟩:=List.mem_map.1 hx;have hik:i<k:=by simpa using hi
    exact ((HM.out i (by have:=HK.out;omega)).ok ht3 (hgood i hik)).1
   obtain ⟨T,hT⟩:∃ T,T=zCv cabac s qp [] ms:=⟨_,rfl⟩;have hbb:=hbg;obtain ⟨hwd,hf0,hc1,ht2,hq,ha0,ha1⟩:=hbb;have HNW:Hid (∀ wx bb,Asc wx→0<bb→WrIs wx bb (.slice none 0 0) []→Calls Tryz.prog 12 #[.pointer (some ⟨bb,0,none⟩),.agg HL.toArray,.agg PL.toArray,.int .i64 s.wide] wx (zN7 wx hd' s qp ms T [bb])):=zh (fun wx bb h1x h2x h3x=>by
    rw [HHL.out,hT];exact zF0 (ov:=.slice none 0 0) h1x (fun gx hg=>by simp [Value.ownBlock] at hg;omega) h3x (by decide) (by simpa using Hp.out) (by rw [e2];exact Hhi.out) Hhi.out.h17 (by omega) ht2 hc1 hq ha0 ha1 (by have:=HK.out;omega) hok)
   have HNR:Hid (k=K→∀ wx,Asc wx→Calls Tryz.prog 17 #[.string T,.int .i64 0,.agg HL.toArray,.agg PL.toArray,.int .i64 s.wide] wx (zOA wx hd' s qp ms)):=zh (fun hkk wx h1x=>by
    rw [HHL.out,hT];exact zF1 (bs:=[]) h1x (fun b hb=>absurd hb (by simp)) (by decide) (by simpa using Hp.out) (by rw [e2];exact Hhi.out) Hhi.out.h17 (by omega) ht2 hc1 hq ha0 ha1 (by rw [hml,hkk]) (by have:=HK.out;omega) hok)
   have Hhd:Hid (HdOk s hd' K):=zh ⟨by rw [e2];exact Hhi.out.h0,Hhi.out.h1,Hhi.out.h2,Hh6.out,Hhi.out.h7,Hhi.out.h8,by rw [e2];decide,by omega,ha0,ha1⟩;have Hok:=zh hok;have Hml:=zh hml;have Hmi:=zh hmi;have Hgood:=zh hgood;have Hbad:=zh hbadk;have Ht3:=zh ht3;have Hq:=zh hq;have HkK:=zh hkK;have hK10:K≤10∧K≤n:=by have:=HK.out;omega
   have hK10i:(K:Int)≤n:=by omega
   clear hok hml hmi hgood hbadk ht3 hq hbg hms hT hwd hf0 hc1 ht2 ha0 ha1 hkK e2 hrow Hsl;refine zH (by kernel_rfl) (fun w'=>w'.rangeAt w.heap.size 0 HL∧w'.rangeAt (w.heap.size+1) 0 PL) 9 ?_;have hS0:(fun w':World=>w'.rangeAt w.heap.size 0 HL∧w'.rangeAt (w.heap.size+1) 0 PL) wc.drew:=⟨HrH.out,HrP.out⟩;refine AnyL.tl 1 rfl (yieldsIf_load_mid (by rfl) _ _ rfl w.heap.size 0 rfl HL _ (fun w' h=>h.1) Tryz.underlying26 rfl HHi.out) ?_;refine AnyL.tl 2 rfl (yieldsIf_load_mid (by rfl) _ _ rfl (w.heap.size+1) 0 rfl PL _ (fun w' h=>h.2) Tryz.underlying28 rfl Hpl.out) ?_;refine AnyL.tk 3 (h:=?_);refine AnyL.on 0 (h:=fun K hK=>?_);go_simp;refine (zGp _).mono ?_;rintro e w1 ⟨rfl,k1,k2,k3⟩;have hSw1:(fun w':World=>w'.rangeAt w.heap.size 0 HL∧w'.rangeAt (w.heap.size+1) 0 PL) w1:=⟨fun j v hj=>k2.cell (hS0.1 j v hj) (by simp),fun j v hj=>k2.cell (hS0.2 j v hj) (by simp)⟩
   have O1:Hid (Only [] wc w1):=zh ((Only.refl [] wc).drew.trans k2);have K1:=zh k1;have hbb:wc.heap.size<w1.heap.size:=by rw [k3];exact Nat.lt_succ_self _
   refine hK _ _ (fun _=>hSw1) (fun hKq=>?_);clear hK K hKq k1 k2 k3
   try simp only [zpt]
   refine AnyL.on 4 (h:=fun K hK=>?_);go_simp;refine (HNW.out w1 _ (HAc.out.only O1.out (by simp)) (show _<wc.heap.size from HAc.out.lt) K1.out).mono ?_;rintro e w2 ⟨wb,c,sb,G,rfl,o2,hb⟩;have hlw:=Ow.out.size;have hSw2:(fun w':World=>w'.rangeAt w.heap.size 0 HL∧w'.rangeAt (w.heap.size+1) 0 PL) w2:=⟨fun j v hj=>o2.cell (hSw1.1 j v hj) (by simp;omega),fun j v hj=>o2.cell (hSw1.2 j v hj) (by simp;omega)⟩;have O2:Hid (Only [] wc w2):=zh (O1.out.trans' o2 (fun i hi=> .inr (by simp at hi;omega)));have hGn:Hid (∀ i∈G,wc.heap.size≤i):=zh (fun i hi=>by
    rcases hb.new i hi with h|h
    ·simp at h;omega
    ·omega)
   have HB:=zh hb;refine hK _ _ (fun _=>hSw2) (fun hKq=>?_);clear hK K hKq o2 hb
   try simp only [zpt]
   refine AnyL.tk 5 (h:=?_);refine AnyL.tk 6 (h:=?_);refine AnyL.tk 7 (h:=?_);refine AnyL.tk 8 (h:=?_);refine AnyL.on 9 (h:=fun K hK=>?_);go_simp;refine hK _ _ (fun _=>hSw2) (fun hKq=>?_);clear hK K hKq
   try simp only [zpt]
   refine AnyL.dn (h:=?_);have hbs2:=O2.out.size;clear O1 K1 hS0 hSw1 hSw2 hbb HNW
   go_wp2_with fail
   refine (zBI _ _).mono ?_;rintro e wn ⟨rfl,rfl⟩;go_wp2;have Hcnt:Hid (∀ wx,Only [] wc wx→wx.cell? ⟨w.heap.size,1,none⟩=some (.int .i64 K)):=zh (fun wx ho=>by
    rw [zA (ho.heap HBc.out (by simp)),HHL.out];exact congrArg some Hhi.out.h1)
   have Harg:Hid (∀ wx i,Only [] wc wx→i<K→MbArg wx (X i) (m i) (len i)∧wx.rangeAt g (off+i*483) (fnA 483 (X i)).toList):=zh (fun wx i ho hi=>⟨(HM.out i (by omega)).only (Ow.out.trans ho),fun j v hj=>(Ow.out.trans ho).cell (Hrow.out i (by omega) j v hj) (by simp)⟩);clear HM Hrow
   go_loopw [11] (fun q wr=>∃ (i:Nat) (G':List Nat),i≤k∧q=.int .i64 (i:Int)∧Hid (Along c wr sb hd' s qp ms i G')∧Hid (Only [] wc wr)∧Hid (∀ i∈G',wc.heap.size≤i)) (fun q _=>((K:Int)-intOf q).toNat)
   case atStart=>exact ⟨0,G,Nat.zero_le _,rfl,zh HB.out.along,O2,hGn⟩
   case round=>
    obtain ⟨i,G',hik,rfl,Hal,Hor,Hgn⟩:=hrel;have ccnt:=Hcnt.out wr Hor.out;have hkK:=HkK.out
    by_cases hiK:i<K
    ·obtain ⟨ha,hrx⟩:=Harg.out wr i Hor.out hiK;obtain ⟨XL,hXL⟩:∃ XL,XL=(fnA 483 (X i)).toList:=⟨_,rfl⟩;have eX:fnA 483 (X i)=XL.toArray:=by rw [hXL,Zq]
     rw [←hXL] at hrx;have HrX:=zh hrx;have HXi:=zh (show (Tryz.prog.info? 51).map (·.size)=some XL.length by rw [hXL,zM];kernel_rfl);have hin:(i:Int)<n:=by omega
     by_cases hlt:i<k
     ·have Hnext:=zh (zJZ HB.out.ok HB.out.T HB.out.pv HB.out.wr HB.out.cell Hal.out (Hmi.out i hlt) Hok.out Hq.out Hhd.out (by omega) (by omega) (ha.ok Ht3.out (Hgood.out i hlt)).2);rw [eX] at Hnext;clear hrx hXL eX ha hkK
      go_wp2_with (with_reducible refine wpList_load_mid rfl 51 _ rfl g (off+i*483) rfl XL _ HrX.out Tryz.underlying51 rfl HXi.out ?_)
      refine Hnext.out.mono ?_;rintro e w3 ⟨rfl,G2,q1,q2,q3⟩;have Hal3:=zh q1;have Hor3:Hid (Only [] wc w3):=zh (Hor.out.trans' q2 (fun i hi=> .inr (Hgn.out i hi)));have Hgn3:Hid (∀ i∈G2,wc.heap.size≤i):=zh (fun i hi=>by
       rcases q3 i hi with h|h
       ·exact Hgn.out i h
       ·have:=Hor.out.size;omega)
      clear q1 q2 q3 Hnext Hal Hor Hgn HrX HXi ccnt
      go_wp2_with fail
      refine (zBI _ _).mono ?_;rintro e wn ⟨rfl,rfl⟩;go_wp2;exact ⟨⟨i+1,G2,by omega,rfl,Hal3,Hor3,Hgn3⟩,by simp [intOf];omega⟩
     ·obtain rfl:i=k:=by omega
      obtain ⟨S,z,F,q1,q2,q3,q4,rfl⟩:=Hal.out.sta;obtain ⟨ao2,cap2,q5,-⟩:=ha.pcm;have Hno:=zh (zKr HB.out.ok HB.out.cell q1 (Hhd.out.sl q2 q3) q2 Hhd.out.h1 (by omega) Ht3.out ha.cell q5 (Hbad.out hiK));rw [eX] at Hno;clear hrx hXL eX ha hkK q1 q2 q3 q4 q5
      go_wp2_with (with_reducible refine wpList_load_mid rfl 51 _ rfl g (off+i*483) rfl XL _ HrX.out Tryz.underlying51 rfl HXi.out ?_)
      refine Hno.out.mono ?_;rintro e w3 ⟨rfl,o3⟩;have O3:=zh ((Ow.out.trans Hor.out).trans o3);clear o3 Hno HrX HXi ccnt
      go_wp2_with fail
      refine (zBI _ _).mono ?_;rintro e wn ⟨rfl,rfl⟩;go_wp2;go_ret;exact ⟨rfl,O3.out⟩
    ·obtain rfl:i=K:=by omega
     obtain rfl:k=i:=by omega
     have Hend:=zh (HB.out.ends (by rw [Hhd.out.h1,Hml.out]) wr G' (by rw [Hml.out];exact Hal.out));have hNR:=HNR.out rfl;have HNR2:=zh hNR;clear hkK HNR hNR
     go_wp2_with fail
     refine Hend.out.mono ?_;rintro e w3 ⟨rfl,q1,q2⟩;have O3:Hid (Only [] wc w3):=zh (Hor.out.trans' q1 (fun i hi=> .inr (Hgn.out i hi)));have HBy:=zh q2;have HrH3:Hid (w3.rangeAt w.heap.size 0 HL):=zh (fun j v hj=>O3.out.cell (HrH.out j v hj) (by simp));have HrP3:Hid (w3.rangeAt (w.heap.size+1) 0 PL):=zh (fun j v hj=>O3.out.cell (HrP.out j v hj) (by simp));have HA3:=zh (HAc.out.only O3.out (by simp));clear q1 q2 Hend Hal Hor Hgn ccnt
     go_wp2_with fail
     refine zH (by kernel_rfl) (fun w'=>w'.rangeAt w.heap.size 0 HL∧w'.rangeAt (w.heap.size+1) 0 PL) 10 ?_;have hS0:(fun w':World=>w'.rangeAt w.heap.size 0 HL∧w'.rangeAt (w.heap.size+1) 0 PL) w3.drew:=⟨HrH3.out,HrP3.out⟩;refine AnyL.tk 0 (h:=?_);refine AnyL.tl 2 rfl (yieldsIf_load_mid (by rfl) _ _ rfl w.heap.size 0 rfl HL _ (fun w' h=>h.1) Tryz.underlying26 rfl HHi.out) ?_;refine AnyL.tl 3 rfl (yieldsIf_load_mid (by rfl) _ _ rfl (w.heap.size+1) 0 rfl PL _ (fun w' h=>h.2) Tryz.underlying28 rfl Hpl.out) ?_;refine AnyL.tk 4 (h:=?_);refine AnyL.on 1 (h:=fun K hK=>?_);go_simp;refine (HBy.out _ (Only.refl [] w3).drew).mono ?_;rintro e w4 ⟨rfl,o4⟩;have hSw4:(fun w':World=>w'.rangeAt w.heap.size 0 HL∧w'.rangeAt (w.heap.size+1) 0 PL) w4:=⟨fun j v hj=>o4.cell (hS0.1 j v hj) (by simp),fun j v hj=>o4.cell (hS0.2 j v hj) (by simp)⟩
     have O4:Hid (Only [] w3 w4):=zh ((Only.refl [] w3).drew.trans o4);refine hK _ _ (fun _=>hSw4) (fun hKq=>?_);clear hK K hKq o4
     try simp only [zpt]
     refine AnyL.on 5 (h:=fun K hK=>?_);go_simp;refine (HNR2.out w4 (HA3.out.only O4.out (by simp))).mono ?_;rintro e w5 ⟨rb,cr,sr,Gr,rfl,o5,hb5⟩;have hSw5:(fun w':World=>w'.rangeAt w.heap.size 0 HL∧w'.rangeAt (w.heap.size+1) 0 PL) w5:=⟨fun j v hj=>o5.cell (hSw4.1 j v hj) (by simp),fun j v hj=>o5.cell (hSw4.2 j v hj) (by simp)⟩;have Oc5:Hid (Only [] wc w5):=zh ((O3.out.trans O4.out).trans o5);have HR:=zh hb5;have HRn:Hid (∀ i∈Gr,w4.heap.size≤i):=zh hb5.new;have O45:Hid (Only [] w4 w5):=zh o5;have Oc4:Hid (Only [] wc w4):=zh (O3.out.trans O4.out);refine hK _ _ (fun _=>hSw5) (fun hKq=>?_);clear hK K hKq o5 hb5 O4 HA3 hS0 hSw4 HrH3 HrP3 HBy O3 HNR2
     try simp only [zpt]
     refine AnyL.tk 6 (h:=?_);refine AnyL.tk 7 (h:=?_);refine AnyL.tk 8 (h:=?_);refine AnyL.tk 9 (h:=?_);refine AnyL.on 10 (h:=fun K hK=>?_);go_simp;refine hK _ _ (fun _=>hSw5) (fun hKq=>?_);clear hK K hKq
     try simp only [zpt]
     refine AnyL.dn (h:=?_);clear hSw5
     go_wp2_with fail
     refine (zBI _ _).mono ?_;rintro e wn ⟨rfl,rfl⟩
     go_wp2_with fail
     refine (zBI _ _).mono ?_;rintro e wn ⟨rfl,rfl⟩;go_wp2
     go_loopw [16] (fun q wr=>∃ (j:Nat) (G':List Nat),j≤k∧q=.int .i64 (j:Int)∧Hid (Along cr wr sr hd' s qp ms j G')∧Hid (Only [] w4 wr)∧Hid (∀ i∈G',w4.heap.size≤i)) (fun q _=>((k:Int)-intOf q).toNat)
     case atStart=>exact ⟨0,Gr,Nat.zero_le _,rfl,zh HR.out.along,O45,HRn⟩
     case round=>
      obtain ⟨j,G',hjk,rfl,Hal,Hor,Hgn⟩:=hrel;have Ocr:Hid (Only [] wc wr):=zh (Oc4.out.trans Hor.out);have ccnt:=Hcnt.out wr Ocr.out
      by_cases hj:j<k
      ·have hin:(j:Int)<n:=by omega
       have Hnext:=zh (zJu HR.out.ok HR.out.T HR.out.pv HR.out.wr HR.out.cell Hal.out (Hmi.out j hj) Hok.out Hq.out Hhd.out (by omega) (by omega))
       go_wp2_with fail
       refine Hnext.out.mono ?_;rintro e w6 ⟨Xf,G2,rfl,q1,q2,q3,q4⟩;have ha:=(Harg.out wr j Ocr.out (by omega)).1;have hrz:=(Harg.out wr j Ocr.out (by omega)).2;have hlen:=zJ6 (Hgood.out j hj);obtain ⟨y,hy⟩:∃ y,y=(m j).y:=⟨_,rfl⟩;obtain ⟨XL,hXL⟩:∃ XL,XL=(fnA 483 Xf).toList:=⟨_,rfl⟩;have eX:fnA 483 Xf=XL.toArray:=by rw [hXL,Zq]
       have hX1:=q4.one;have HXf:Hid (∀ j2,j2<482→Xf j2=.int .i64 (s.out (zHb s (ms.take j)) y j2)):=zh (by rw [hy];exact q4.cell);rw [eX] at hX1 ⊢;have HX1:=zh hX1;have HXj:=zh (show (Tryz.prog.info? 51).map (·.size)=some XL.toArray.size by rw [List.size_toArray,hXL,zM];kernel_rfl);have HXz:=zh ((show Tryz.zeroCells51.size=483 by kernel_rfl).trans (show XL.toArray.size=483 by rw [List.size_toArray,hXL,zM]).symm);have HeX:=zh eX;have O6:Hid (Only [] w4 w6):=zh (Hor.out.trans' q2 (fun i hi=> .inr (Hgn.out i hi)));have Hgn6:Hid (∀ i∈G2,w4.heap.size≤i):=zh (fun i hi=>by
        rcases q3 i hi with h|h
        ·exact Hgn.out i h
        ·have:=Hor.out.size;omega)
       have Hal6:=zh q1;have Hout6:=zh q4;have Hlen:=zh hlen;have Hya:=zh hy;clear q1 q2 q3 q4 Hnext Hal Hor Hgn eX hXL hX1 ha hrz hlen hy ccnt Ocr
       go_wp2_with (refine zY rfl 51 _ _ rfl w6.heap.size XL.toArray rfl rfl (ZA w6 _) HXj.out HXz.out HX1.out ?_)
       intro w7 hw7 ho7;have O67:Hid (Only [] w6 w7):=zh (((Only.refl [] w6).alloc _).trans' ho7 (fun i hi=> .inr (by simp at hi;omega)));obtain ⟨xb,hxb⟩:∃ b,b=w6.heap.size:=⟨_,rfl⟩;rw [←hxb] at hw7 ⊢;have HB7:Hid (BlkIn w7 xb 483 51 (zCo Xf y 0)):=zh (by
        unfold BlkIn;rw [show zCo Xf y 0=Xf from funext fun i=>if_neg (by omega),HeX.out];exact hw7)
       have Hxb:=zh hxb;clear hw7 ho7 hxb HXj HXz HX1 HeX
       go_wp2_with fail
       refine (zBI _ _).mono ?_;rintro e wn ⟨rfl,rfl⟩;go_wp2
       go_loopw [19] (fun q wx=>∃ qn:Nat,qn≤4∧q=.int .i64 (qn:Int)∧Hid (BlkIn wx xb 483 51 (zCo Xf y qn)∧Only [] w6 wx)) (fun q _=>(4-intOf q).toNat)
       case atStart=>exact ⟨0,by decide,rfl,zh ⟨HB7.out,O67.out⟩⟩
       case round=>
        obtain ⟨q,hq4,rfl,Hx⟩:=hrel;have Ow6:Hid (Only [] wc wr):=zh ((Oc4.out.trans O6.out).trans Hx.out.2);obtain ⟨ha,hrz⟩:=Harg.out wr j Ow6.out (by omega);have hat:∀ i,i<482→wr.cell? ⟨g,off+j*483+i,none⟩=some (.int .i64 (y i)):=fun i hi=>hrz i _ (by rw [Hya.out,←ha.cell i hi];simp [fnA,show i<483 by omega])
        by_cases hq:q<4
        ·have c0:=hat 0 (by decide);rw [Nat.add_zero] at c0;have cd:=hat (20+q*7) (by omega);rw [←Nat.add_assoc] at cd;have hr7:wr.rangeAt g (off+j*483+20+q*7) ((List.range 7).map fun i=>Value.int .i64 (y (20+q*7+i))):=fun i u hu=>by
          have hi:i<7:=by
           apply Classical.byContradiction
           intro e;rw [List.getElem?_eq_none (by simp;omega)] at hu
           cases hu
          have h:=hat (20+q*7+i) (by omega);rw [show off+j*483+(20+q*7+i)=off+j*483+20+q*7+i by omega] at h;rw [h]
          simpa [hi] using hu
         have HR7:=zh hr7;have HI7:=zh (show (Tryz.prog.info? 45).map (·.size)=some ((List.range 7).map fun i=>Value.int .i64 (y (20+q*7+i))).length by simp only [List.length_map,List.length_range];kernel_rfl);have HI8:=zh (show (Tryz.prog.info? 45).map (·.size)=some 7 by kernel_rfl);have hqi:(q:Int)<4:=by omega
         obtain ⟨kd,hkd⟩:∃ k,k=y 0:=⟨_,rfl⟩;obtain ⟨d,hd7⟩:∃ k,k=y (20+q*7):=⟨_,rfl⟩;rw [←hkd] at c0;rw [←hd7] at cd
         by_cases h43:kd=4∧d≠3
         ·have e9:=zIl (q:=q) HXf.out hq (hkd▸h43.1) (by rw [show 20+7*q=20+q*7 by omega,←hd7];exact h43.2);have HB9:Hid (BlkIn wr xb 483 51 (zCo Xf y (q+1))∧Only [] w6 wr):=zh (by rw [←e9];exact Hx.out);obtain ⟨rfl,hd3⟩:=h43;have bd:(d==3)=false:=by simpa using hd3
          clear hkd hd7 e9 hat hrz ha hr7;go_wp2;exact ⟨⟨q+1,by omega,rfl,HB9⟩,by simp [intOf];omega⟩
         ·have hcs:(kd != 4)=true∨(kd=4∧d=3):=by
           by_cases h4:kd=4
           ·exact .inr ⟨h4,Classical.byContradiction fun h=>h43 ⟨h4,h⟩⟩
           ·exact .inl (by simpa using h4)
          clear hkd hd7 hat hrz ha hr7 h43
          rcases hcs with hk4|⟨rfl,rfl⟩
          all_goals
           go_wp2_with (first
            |(with_reducible refine wpList_load_mid rfl 45 _ rfl g (off+j*483+20+q*7) rfl _ _ HR7.out Tryz.underlying45 rfl HI7.out ?_)
            |(refine Zj rfl 45 _ _ rfl xb (20+q*7) 7 483 (fun i=> .int .i64 (y (20+q*7+i))) (zCo Xf y q) rfl rfl Hx.out.1 HI8.out (by omega) (fun _=>rfl) ?_))
           intro w9 hb9 o9;rw [zIk] at hb9;have HB9:Hid (BlkIn w9 xb 483 51 (zCo Xf y (q+1))∧Only [] w6 w9):=zh ⟨hb9,Hx.out.2.trans' o9 (fun i hi=> .inr (by rw [List.mem_singleton.1 hi,Hxb.out];exact Nat.le_refl _))⟩;clear hb9 o9 Hx HR7;go_wp2;exact ⟨⟨q+1,by omega,rfl,HB9⟩,by simp [intOf];omega⟩
        ·obtain rfl:q=4:=by omega
         obtain ⟨YL,hYL⟩:∃ L,L=(fnA 483 (zCo Xf y 4)).toList:=⟨_,rfl⟩;obtain ⟨ZL,hZL⟩:∃ L,L=(fnA 483 (X j)).toList:=⟨_,rfl⟩;have hY:=Hx.out.1.range;rw [←hYL] at hY;rw [←hZL] at hrz;have HYi:=zh (show (Tryz.prog.info? 51).map (·.size)=some YL.length by rw [hYL,zM];kernel_rfl);have HZi:=zh (show (Tryz.prog.info? 51).map (·.size)=some ZL.length by rw [hZL,zM];kernel_rfl);have Hout:=zh (Hout6.out.step Hx.out.2 (fun i hi=>by cases hi) (fun i hi=> .inl hi));have Hsame:Hid (∀ wx,Only [] wr wx→Calls Tryz.prog 20 #[.agg YL.toArray,.agg ZL.toArray] wx fun e w'=>e=.returned (.bool true)∧Only [] wx w'):=zh (fun wx ho=>by
          rw [hYL,hZL,Zq,Zq];refine zJq (y:=y) (fun i hi=>zJY HXf.out hi) (fun i hi=>by rw [Hya.out];exact ha.cell i hi) (fun wy h=>?_) (fun wy h=>zJj (ha.only (ho.trans h)));rw [show zCo Xf y 4 482=Xf 482 from if_neg (by omega)];exact zJi (Hout.out.step (ho.trans h) (fun i hi=>by cases hi) (fun i hi=> .inl hi)) Hlen.out)
         have Ox:=zh Hx.out.2;have HYr:=zh hY;have HZr:=zh hrz;have Hal9:=zh (Hal6.out.only HR.out.ok Hx.out.2 (by simp));clear hat ha hY hrz hYL hZL Hx Hal6 Hout
         go_upto_region 29 with fail
         refine zH (by kernel_rfl) (fun w':World=>w'.rangeAt xb 0 YL∧w'.rangeAt g (off+j*483) ZL) 6 ?_;have hS0:(fun w':World=>w'.rangeAt xb 0 YL∧w'.rangeAt g (off+j*483) ZL) wr.drew:=⟨HYr.out,HZr.out⟩;refine AnyL.tl 0 rfl (yieldsIf_load_mid (by rfl) _ _ rfl xb 0 rfl YL _ (fun w' h=>h.1) Tryz.underlying51 rfl HYi.out) ?_;refine AnyL.tk 1 (h:=?_);refine AnyL.tk 2 (h:=?_);refine AnyL.tk 3 (h:=?_);refine AnyL.tl 4 rfl (yieldsIf_load_mid (by rfl) _ _ rfl g (off+j*483) rfl ZL _ (fun w' h=>h.2) Tryz.underlying51 rfl HZi.out) ?_;refine AnyL.on 5 (h:=fun K hK=>?_);go_simp;refine (Hsame.out wr.drew (Only.refl [] wr).drew).mono ?_;rintro e w9 ⟨rfl,o9⟩;have hS9:(fun w':World=>w'.rangeAt xb 0 YL∧w'.rangeAt g (off+j*483) ZL) w9:=⟨fun a v hv=>o9.cell (hS0.1 a v hv) (by simp),fun a v hv=>o9.cell (hS0.2 a v hv) (by simp)⟩
         have O9:Hid (Only [] wr w9):=zh ((Only.refl [] wr).drew.trans o9);refine hK _ _ (fun _=>hS9) (fun hKq=>?_);clear hK K hKq o9
         try simp only [zpt]
         refine AnyL.on 6 (h:=fun K hK=>?_);go_simp;refine hK _ _ (fun _=>hS9) (fun hKq=>?_);clear hK K hKq
         try simp only [zpt]
         refine AnyL.dn (h:=?_);have HalE:=zh (Hal9.out.only HR.out.ok O9.out (by simp));have OE:Hid (Only [] w4 w9):=zh ((O6.out.trans Ox.out).trans O9.out);clear hS0 hS9 HYr HZr Hsame Hal9 O9 Ox;go_wp2;exact ⟨⟨j+1,G2,by omega,rfl,HalE,OE,Hgn6⟩,by simp [intOf];omega⟩
      ·obtain rfl:j=k:=by omega
       have Hend2:=zh (HR.out.ends wr G' (by rw [Hml.out];exact Hal.out))
       go_wp2_with fail
       refine Hend2.out.mono ?_;rintro e w6 ⟨rfl,q1⟩;have O6:Hid (Only [] w w6):=zh ((Ow.out.trans Oc4.out).trans (Hor.out.trans' q1 (fun i hi=> .inr (Hgn.out i hi))));clear q1 Hend2 Hal Hor Hgn ccnt
       go_wp2_with fail
       refine (zBI _ _).mono ?_;rintro e wn ⟨rfl,rfl⟩;go_wp2;go_ret;exact ⟨rfl,O6.out⟩
end Go.Proofs.YtcppbdlmcbjmeaaGreatDoor
