/- Lemmas that the law needs, part 43. -/
import Derived.Test.YtcppbdlmcbjmeaaGreatDoorK42
set_option maxHeartbeats 6400000
set_option maxRecDepth 100000
namespace Go.Proofs.YtcppbdlmcbjmeaaGreatDoor
open Go.RowKit
def zKo (w:World) (rb sb:Nat):Prop:=w.cell? ⟨rb,0,none⟩=some (.pointer (some ⟨sb,0,none⟩))∧w.cell? ⟨rb,5,none⟩=some (.int .i64 0)∧w.cell? ⟨rb,6,none⟩=some (.bool false)
def zOG (c:Cod) (w:World) (sb:Nat) (S:Nat→Value) (s:Sl) (n:Nat) (ds:List DoneP) (F:List Nat) (r:List Ask) (p:Int) (y ps:Nat→Int) (e:Ending) (w':World):Prop:=∃ (Xf:Nat→Value) (v':Value) (z':Nat→Int) (F':List Nat),e=.returned (.tuple #[.agg (fnA 483 Xf),.int .i64 0])∧
 Left c w w' sb S s n ds F r p y v' z' F'∧(∀ j,j<482→Xf j=.int .i64 (s.out ds y j))∧(y 0≠2→Xf 482=.slice none 0 0)∧
 (y 0=2→∃ pb cap,Xf 482=.slice (some ⟨pb,0,none⟩) 384 cap∧PcmIs w' pb ps∧pb∉F'∧v'.ownBlock≠some pb∧w.heap.size≤pb)
def mb0:Nat→Value:=fun j=>if j=482 then .slice none 0 0 else .int .i64 0
theorem zJ5:Tryz.zeroCells51=fnA 483 mb0:=by kernel_rfl
theorem zMk (pr pm pe:Value) (w:World):
 CallsD Tryz.prog 45 #[pr,pm,pe] .returning w fun e u' w'=>e=.returned (.tuple #[])∧u'=.returning∧w'=w:=by
 refine callsD_of_wpS Tryz.func45 rfl fun c₀ cs hu=>?_
 apply wpS_seq
 apply wpS_region
 simp [wpOpsS,go_sem,recoverD,hu,Tryz.ntmps45,Exit.thenS]
 apply wpS_seq
 apply wpS_region
 simp [wpOpsS,go_sem,Exit.thenS];refine wpS_cond (t:=false) (by simp [Act.eval,Array.replicate]) ?_;simp only [Bool.false_eq_true,if_false];refine wpS_of_wp (wp_skip ?_)
 cases c₀
 simp_all [bodyPostS,results,Tryz.results45]
theorem zNy {c:Cod} {w:World} {rb sb n:Nat} {S:Nat→Value} {hd:Nat→Value} {z:Nat→Int} {ds:List DoneP} {F:List Nat} {r:List Ask} {y ps:Nat→Int} {p cnt:Int} {s:Sl} (hc:c.Ok) (hT:c.T=53) (hpv:c.pv=.pointer (some ⟨rb,0,none⟩)) (hwr:c.wr=false)
 (hcell:∀ F r w,c.C F r w→zKo w rb sb∧rb∈F) (h:Sta c w sb S z n (zG ds) F (zCq s ds p y ps++r))
 (hs:zNE s S) (hS:∀ j,j<21→S j=hd j) (hd1:hd 1=.int .i64 cnt) (h22:S 22=.int .i64 p) (bn:n≤1000000) (hds:ds.length=n) (hnc:(n:Int)<cnt)
 (hb:Behind ds p) (hy:MbOk s y ps):
 Calls Tryz.prog 19 #[.pointer (some ⟨rb,0,none⟩)] w (zOG c w sb S s n ds F r p y ps):=by
 have hmf:∀ (fn:Fn) (first cap:Array Value) (w:World),(Instr.makeFunc fn first cap).run Tryz.prog w=.ok (.func fn first cap) w:=fun _ _ _ _=>rfl
 obtain ⟨hlv,hrF⟩:=hcell F _ _ h.c;have hF:∀ i∈F,i<w.heap.size:=fun i hi=>hc.low F _ _ h.c i hi
 have hg23:∀ g,(S 23).ownBlock=some g→g<w.heap.size:=fun g hg=>by obtain ⟨cur,hcur⟩:=zD h.a hg;exact lt_of_block hcur
 have hsl:=h.s.lt;have hrl:=hF rb hrF;obtain ⟨ad,capd,hv23⟩:=h.slice;obtain ⟨wA,hwA⟩:∃ wA,wA=((w.alloc (.cells #[.pointer (some ⟨rb,0,none⟩)] 53)).alloc (.cells Tryz.zeroCells51 51)).alloc (.cells #[.int .i64 0] 32):=⟨_,rfl⟩;have oA:Only [] w wA:=by rw [hwA];exact (((Only.refl _ w).alloc _).alloc _).alloc _
 have a0:wA.heap[w.heap.size]? =some (.cells #[.pointer (some ⟨rb,0,none⟩)] 53 (0,0)):=by rw [hwA];exact ZE _ (ZE _ (ZA w _))
 have a1:BlkIn wA (w.heap.size+1) 483 51 mb0:=by
  unfold BlkIn;rw [hwA,←zJ5];have:=ZA (w.alloc (.cells #[.pointer (some ⟨rb,0,none⟩)] 53)) (.cells Tryz.zeroCells51 51);exact ZE _ (by simpa using this)
 have a2:wA.heap[w.heap.size+1+1]? =some (.cells #[.int .i64 0] 32 (0,0)):=by
  rw [hwA];have:=ZA ((w.alloc (.cells #[.pointer (some ⟨rb,0,none⟩)] 53)).alloc (.cells Tryz.zeroCells51 51)) (.cells #[.int .i64 0] 32)
  simpa using this
 have sA:w.heap.size+1+1<wA.heap.size:=lt_of_block a2;have hSt:=h.only hc oA (by simp) (by simp) (by simp);obtain ⟨r0,r5,r6⟩:=(hcell F _ _ hSt.c).1;have cr:wA.cell? ⟨w.heap.size,0,none⟩=some (.pointer (some ⟨rb,0,none⟩)):=by rw [zA a0];rfl
 have cs1:wA.cell? ⟨sb,1,none⟩=some (.int .i64 cnt):=by rw [hSt.cell 1 (by decide),hS 1 (by decide),hd1]
 have cs23:wA.cell? ⟨sb,23,none⟩=some (.slice ad n capd):=by rw [hSt.cell 23 (by decide),hv23]
 have ze:=ZB a2 0;have HSt:=zh hSt;have HB:=zh a1;have HE:=zh a2;have HO:=zh oA;have HS:=zh hS;have HF:=zh hF;have Hg23:=zh hg23;have Hv23:=zh hv23;clear hSt a1 a2 a0 oA hS hF hg23 hv23 hlv
 go_enter_defers Tryz.func19,Tryz.ntmps19
 go_wp2_with fail
 rw [←hwA];clear hwA
 go_quiet (fail)
 rename_i nq;replace HSt:Hid (Sta c (wA.drewN nq) sb S z n (zG ds) F (zCq s ds p y ps++r)):=zh (HSt.out.only hc ((Only.refl [] wA).drewN nq) (by simp) (by simp) (by simp));replace HB:Hid (BlkIn (wA.drewN nq) (w.heap.size+1) 483 51 mb0):=zh HB.out;replace HE:Hid ((wA.drewN nq).heap[w.heap.size+1+1]? =some (.cells #[.int .i64 0] 32 (0,0))):=zh HE.out;replace HO:Hid (Only [] w (wA.drewN nq)):=zh (HO.out.drewN nq);replace cr:(wA.drewN nq).cell? ⟨w.heap.size,0,none⟩=some (.pointer (some ⟨rb,0,none⟩)):=cr;replace r0:(wA.drewN nq).cell? ⟨rb,0,none⟩=some (.pointer (some ⟨sb,0,none⟩)):=r0;replace r5:(wA.drewN nq).cell? ⟨rb,5,none⟩=some (.int .i64 0):=r5;replace sA:w.heap.size+1+1<(wA.drewN nq).heap.size:=sA;replace ze:(wA.drewN nq).frozen? ⟨w.heap.size+1+1,0,none⟩=false:=ze;clear r6 cs1 cs23;generalize wA.drewN nq=w1 at*
 rw [show decide (cnt≤(n:Int))=false from decide_eq_false (by omega)]
 go_wp2_with fail
 go_still_tail 7,(by kernel_rfl)
 change wpList _ _ _ _ _ w1.drew
 replace HSt:Hid (Sta c w1.drew sb S z n (zG ds) F (zCq s ds p y ps++r)):=zh (HSt.out.only hc (Only.refl [] w1).drew (by simp) (by simp) (by simp));replace HB:Hid (BlkIn w1.drew (w.heap.size+1) 483 51 mb0):=zh HB.out;replace HE:Hid (w1.drew.heap[w.heap.size+1+1]? =some (.cells #[.int .i64 0] 32 (0,0))):=zh HE.out;replace HO:Hid (Only [] w w1.drew):=zh HO.out.drew;replace sA:w.heap.size+1+1<w1.drew.heap.size:=sA;clear cr r0 r5 ze;generalize w1.drew=w2 at*
 go_wp2_with fail
 have oK:Only [] w2 (w2.alloc (.cells #[.pointer (some ⟨sb,0,none⟩),.iface 53 (.pointer (some ⟨rb,0,none⟩)),.pointer (some ⟨w.heap.size+1,0,none⟩)] 112)):=(Only.refl [] w2).alloc _;have hst4:=HSt.out.only hc oK (by simp) (by simp) (by simp);have hsK:=oK.size;have sc:=hst4.scene (kb:=w2.heap.size) (mb:=w.heap.size+1) (X:=mb0) (by rw [hT,hpv];exact ZA w2 _) (HB.out.only oK (by simp)) (fun e=>by have:=HF.out _ e;omega) (fun e=>by have:=HF.out _ e;omega);refine (zFo (x:=fun _=>0) hc sc hs h22 bn hds hb hy ⟨fun j hj=>by unfold mb0;rw [if_neg (by omega)],fun e=>(by rw [hwr] at e;cases e),fun _ _ _=>rfl⟩ (fun _=> .inl ⟨hwr,rfl⟩)).mono ?_;rintro e w5 ⟨rfl,v',z',F',Xf,G',hr,h6,h7,h8⟩;have hp8:y 0=2→∃ pb cap,Xf 482=.slice (some ⟨pb,0,none⟩) 384 cap∧PcmIs w5 pb ps∧pb∉F'∧w2.heap.size<pb∧G'=pb::(S 23).ownBlock.toList:=fun h2=>by
  obtain ⟨pb,capb,q1,q2,q3,q4,q5⟩:=h8 h2;refine ⟨pb,capb,q1,q2,q3,?_,q5⟩
  rcases q4 with q4|⟨cap',q4⟩
  ·rw [World.size_alloc] at q4;omega
  ·cases q4
 have hG:∀ g∈G',(S 23).ownBlock=some g∨w2.heap.size<g:=by
  intro g hg
  by_cases h2:y 0=2
  ·obtain ⟨pb,capb,q1,q2,q3,q4,q5⟩:=hp8 h2;rw [q5] at hg
   rcases List.mem_cons.1 hg with rfl|hg
   ·exact .inr q4
   ·exact .inl (by simpa using hg)
  ·rw [(h7 h2).2] at hg;exact .inl (by simpa using hg)
 have hga:∀ g,v'.ownBlock=some g→(S 23).ownBlock=some g∨w2.heap.size<g:=by
  intro g hg
  rcases hr.ga g (by rw [zI _ _ (by decide),ZK];exact hg) with h1|h1
  ·exact hG g h1
  ·rw [World.size_alloc] at h1;exact .inr (by omega)
 have hpo:∀ pb,v'.ownBlock=some pb→∀ cap,Xf 482=.slice (some ⟨pb,0,none⟩) 384 cap→y 0=2→False:=by
  intro pb hg cap hx h2;obtain ⟨pb2,capb,q1,q2,q3,q4,q5⟩:=hp8 h2;rw [q1] at hx;injection hx with hx
  injection hx with hx
  injection hx with hx
  subst hx;obtain ⟨cur,hcur⟩:=zD hr.a (by rw [zI _ _ (by decide),ZK];exact hg);obtain ⟨cur2,hcur2,-⟩:=q2;rw [hcur] at hcur2;simp at hcur2
 subst hds;have sta:=hr.sta;have o5:Only (sb::(F++(S 23).ownBlock.toList)) w w5:=by
  refine ((HO.out.trans oK).mono (T:=sb::(F++(S 23).ownBlock.toList)) (by simp)).trans' hr.o (fun i hi=>?_);simp only [List.mem_cons,List.mem_append,Option.mem_toList] at hi ⊢
  rcases hi with h1|h1|h1|h1
  ·exact .inl (.inl h1)
  ·exact .inr (by omega)
  ·exact .inl (.inr (.inl h1))
  ·rcases hG i h1 with h2|h2
   ·exact .inl (.inr (.inr h2))
   ·exact .inr (by omega)
 have hM5:BlkIn w5 (w.heap.size+1) 483 51 Xf:=hr.m;have hnM:w.heap.size+1∉F':=hr.nm;have hE5:w5.heap[w.heap.size+1+1]? =some (.cells #[.int .i64 0] 32 (0,0)):=(hr.o.heap (oK.heap HE.out (by simp)) (by
  simp only [List.mem_cons,List.mem_append,not_or];refine ⟨by omega,by omega,fun e=>by have:=HF.out _ e;omega,fun e=>?_⟩
  rcases hG _ e with h1|h1
  ·have:=Hg23.out _ h1;omega
  ·omega))
 have hFn:∀ i∈F',i∈F∨w.heap.size+1+1<i:=fun i hi=>(hr.n i hi).imp id (fun h=>by rw [World.size_alloc] at h;omega)
 obtain ⟨XL,hXL⟩:∃ XL,XL=(fnA 483 Xf).toList:=⟨_,rfl⟩;have eX:fnA 483 Xf=XL.toArray:=by rw [hXL,Zq]
 have hX1:XL.toArray.all (·.oneCell')=true:=by
  rw [Array.all_eq_true_iff_forall_mem];intro v hv;rw [hXL] at hv;obtain ⟨j,hj,rfl⟩:∃ j,j<483∧Xf j=v:=by simpa [fnA] using hv
  by_cases hj2:j<482
  ·rw [h6 j hj2];rfl
  ·obtain rfl:j=482:=by omega
   by_cases h2:y 0=2
   ·obtain ⟨pb,capb,q1,-⟩:=hp8 h2;rw [q1];rfl
   ·rw [(h7 h2).1];rfl
 have hXi:(Tryz.prog.info? 51).map (·.size)=some XL.toArray.size:=by rw [List.size_toArray,hXL,zM];kernel_rfl
 have hM6:w5.heap[w.heap.size+1]? =some (.cells XL.toArray 51 (0,0)):=by rw [←eX];exact hM5
 have hrX:w5.rangeAt (w.heap.size+1) 0 XL:=by rw [hXL];exact hM5.range
 have hXi2:(Tryz.prog.info? 51).map (·.size)=some XL.length:=by rw [hXi,List.size_toArray]
 have Hpost:Hid (∀ w7,Only [w.heap.size+1,w.heap.size+1+1] w5 w7→zOG c w sb S s ds.length ds F r p y ps (.returned (.tuple #[.agg XL.toArray,.int .i64 0])) w7):=zh (by
  intro w7 o7;have hgn:∀ g,v'.ownBlock=some g→g∉[w.heap.size+1,w.heap.size+1+1]:=by
   intro g hg;simp only [List.mem_cons,List.not_mem_nil,or_false,not_or]
   rcases hga g hg with h1|h1
   ·have:=Hg23.out _ h1;omega
   ·omega
  refine ⟨Xf,v',z',F',by rw [←eX],⟨sta.only hc o7 (by simp;omega) (by rw [ZK];exact hgn) (fun i hi=>?_),o5.trans' o7 (fun i hi=> .inr (by simp at hi;omega)),fun i hi=>(hFn i hi).imp id (by omega),fun g hg=>(hga g hg).imp id (by omega)⟩,h6,fun h2=>(h7 h2).1,fun h2=>?_⟩
  ·simp only [List.mem_cons,List.not_mem_nil,or_false,not_or]
   rcases hFn i hi with h1|h1
   ·have:=HF.out _ h1;omega
   ·omega
  ·obtain ⟨pb,capb,q1,q2,q3,q4,q5⟩:=hp8 h2;exact ⟨pb,capb,q1,q2.only o7 (by simp;omega),q3,fun hg=>hpo pb hg capb q1 h2,by omega⟩)
 have HM6:=zh hM6;have HrX:=zh hrX;have HX1:=zh hX1;have HXi:=zh hXi;have HXi2:=zh hXi2;have HE5:=zh hE5;have sA5:w.heap.size+1+1<w5.heap.size:=lt_of_block hE5;clear hM6 hrX hX1 hXi hXi2 hE5 sta o5 hM5 hnM hFn hXL eX hpo hga hG hp8 hr h6 h7 h8 sc hst4 oK hsK
 go_wp2_with (with_reducible first
  |refine wpList_load_mid rfl 51 _ rfl (w.heap.size+1) 0 rfl XL _ HrX.out Tryz.underlying51 rfl HXi2.out ?_
  |refine zY rfl 51 _ _ rfl (w.heap.size+1) XL.toArray rfl rfl HM6.out HXi.out rfl HX1.out ?_)
 intro w6 hw6 ho6;have HM7:=zh hw6;have he6:=ho6.heap HE5.out (by simp);have ce6:=zA he6 0;have ze6:=ZB he6 0;have HE6:=zh he6;have O6:=zh ho6;clear hw6 ho6 he6 HM6 HrX HX1;go_wp2;refine leaves_cons (f:=45) (args:=#[.pointer (some ⟨w.heap.size,0,none⟩),.pointer (some ⟨w.heap.size+1,0,none⟩),.pointer (some ⟨w.heap.size+1+1,0,none⟩)]) (by simp) (by simp [go_sem]) ?_;refine (zMk _ _ _ _).mono ?_;rintro e u' w'' ⟨rfl,rfl,rfl⟩;have oS:Only [w.heap.size+1+1] w6 (w6.setCell ⟨w.heap.size+1+1,0,none⟩ (.int .i64 0)):=(Only.refl _ w6).setCell (.inl (by simp)) _;have hM8:=oS.heap HM7.out (by simp);have hE8:=zB (i:=0) (.int .i64 0) HE6.out;have O8:=O6.out.mono (T:=[w.heap.size+1,w.heap.size+1+1]) (by simp) |>.trans (oS.mono (by simp));generalize w6.setCell ⟨w.heap.size+1+1,0,none⟩ (.int .i64 0)=w8 at*
 have hrow:=run_loadVar_row (P:=Tryz.prog) w8 (w.heap.size+1) _ 51 XL.toArray (0,0) _ hM8 Tryz.underlying51 rfl HXi.out;have ce8:w8.cell? ⟨w.heap.size+1+1,0,none⟩=some (.int .i64 0):=by rw [zA hE8];rfl
 have hone:(loadVar 32 ⟨w.heap.size+1+1,0,none⟩).run Tryz.prog w8=.ok (.int .i64 0) w8:=by simp [go_sem,ce8]
 have hp:=Hpost.out w8 O8;simp [Leaves,settle,results,Tryz.results19,asAddr,hrow,hone];exact hp
structure MbN where
 y:Nat→Int
 ps:Nat→Int
def MbN.ok (s:Sl) (m:MbN):Prop:=MbOk s m.y m.ps
def zHP (s:Sl) (ds:List DoneP) (ms:List MbN):List DoneP:=ms.foldl (fun ds m=>ds++[s.d ds m.y]) ds
def zHb (s:Sl) (ms:List MbN):List DoneP:=zHP s [] ms
def zLx (p:Int) (ms:List MbN):Int:=ms.foldl (fun p m=>zDn p m.y) p
def zB0 (s:Sl):List DoneP→Int→List MbN→List Ask
 |_,_,[]=>[]
 |ds,p,m::l=>zCq s ds p m.y m.ps++zB0 s (ds++[s.d ds m.y]) (zDn p m.y) l
theorem zF9 (s:Sl) (ba:s.a0≤8∧s.a1≤8):∀ (l:List MbN) (ds:List DoneP) (p:Int),(∀ m∈l,m.ok s)→Behind ds p→∀ a∈zB0 s ds p l,a.fine
 |[],_,_,_,_=>ZO
 |m::l,ds,p,hm,hb=>zAR (zMu (hm m (by simp)) hb ba) (zF9 s ba l _ _ (fun x hx=>hm x (by simp [hx])) (hb.next (hm m (by simp))))
theorem zBH {g:Nat→List Ask} {k:Nat} (h:∀ b,(g b).length≤k):∀ j,(ZS g j).length≤j*k
 |0=>by simp [ZS]
 |j+1=>by
  have h1:=h (16-(j+1));have h2:=zBH h j
  show (g (16-(j+1))++ZS g j).length≤_
  rw [List.length_append,Nat.add_mul];omega
theorem zCD (inc:Int) (y:Nat→Int):∀ j,(ZX inc y j).length=j
 |0=>rfl
 |j+1=>by simp [ZX,zCD inc y j]
theorem zFe (kind:Int) (L H:Nat) (d inc:Int) (y:Nat→Int):(zAB kind L H d inc y).length≤40:=by
 have h0:∀ b,(zn kind L inc y b).length≤1:=by
  intro b;unfold zn
  split
  ·simp
  ·split<;>simp
 have h1:=zBH h0 16;unfold zAB;simp only [List.length_cons,List.length_append];have h2:(if zAg kind (L+16*H)=true then [Ask.elem 13 0 d 0] else []).length≤1:=by split<;>simp
 have h3:(if kind=1 then [Ask.coefs (zCF y 434 16) 0 inc] else []).length≤1:=by split<;>simp
 have h4:(if 0<H then [Ask.coefs (zCF y 450 4) 3 inc,.coefs (zCF y 466 4) 3 inc] else []).length≤2:=by split<;>simp
 have h5:(if H=2 then ZX inc y 8 else []).length≤8:=by split<;>simp [zCD]
 omega
theorem zBc (most:Int) (l:Nat) (D G:Nat→Int):∀ us:List (List Nat),(ZM most l D G us).length≤us.length
 |[]=>by simp [ZM]
 |u::us=>by
  have:=zBc most l D G us;unfold ZM;rw [List.length_append,List.length_cons]
  split<;>simp<;>omega
theorem zBa (B:Nat→Nat→Int×Int) (l:Nat) (D G:Nat→Int):∀ (us:List (List Nat)) (k:Nat),(ZI B l D G us k).length≤2*us.length
 |[],_=>by simp [ZI]
 |u::us,k=>by
  have:=zBa B l D G us (k+1);unfold ZI;rw [List.length_append,List.length_cons]
  split<;>simp<;>omega
theorem zGa (t shape a0 a1:Int) (B0 B1:Nat→Nat→Int×Int) (D G:Nat→Int):(zE1 t shape a0 a1 B0 B1 D G).length≤30:=by
 have hu:=zBD shape;have h1:=zBc (a0-1) 0 D G (ZD shape);have h2:=zBc (a1-1) 1 D G (ZD shape);have h3:=zBa B0 0 D G (ZD shape) 0;have h4:=zBa B1 1 D G (ZD shape) 0;have h5:(if t=1 then zBj (if shape=3 then 3 else 2) D (ZD shape) else []).length≤(ZD shape).length:=by
  split
  ·simp [zBj]
  ·simp
 unfold zE1;simp only [List.length_cons,List.length_append];omega
theorem zHF (s:Sl) (ds:List DoneP) (p:Int) (y ps:Nat→Int):(zCq s ds p y ps).length≤400:=by
 have h0:(if s.t=2 then [] else [Ask.elem 0 (zAH (fun k=>k != 3) ds s.f s.wide ds.length) (if y 0=3 then 1 else 0) 1]).length≤1:=by split<;>simp
 have h1:(zHW s ds y).length≤32:=by
  unfold zHW
  split
  ·simp
  ·split
   ·exact zBH (k:=2) (fun b=>by unfold zAd;split<;>simp) 16
   ·split
    ·have:=zGa s.t (y 1) s.a0 s.a1 (s.B ds y 0) (s.B ds y 1) (fun p=>y (20+7*p)) (s.G ds y);omega
    ·simp
 have h2:(zC4 s ds p y ps).length≤384:=by
  unfold zC4
  split
  ·simp [zCw]
  ·have:=zFe (y 0) (zCr y) (zAI y) (dqp p (y 49)) (zNA ds s.f s.wide) y;have h3:(if za (y 0)=true then [Ask.elem 5 0 (y 19) 3] else []).length≤1:=by split<;>simp
   simp only [List.length_append];omega
 unfold zCq;rw [List.length_append];have h4:(if y 0=3 then [] else Ask.elem 1 (zAH za ds s.f s.wide ds.length) (zF5 (y 0) (kAll.drop s.off) 0:Nat) ((5-s.off:Nat)-1)::zC4 s ds p y ps).length≤385:=by
  split
  ·simp
  ·rw [List.length_cons];omega
 omega
theorem zCI (s:Sl):∀ (l:List MbN) (ds:List DoneP) (p:Int),(zB0 s ds p l).length≤400*l.length
 |[],_,_=>by simp [zB0]
 |m::l,ds,p=>by
  have h1:=zHF s ds p m.y m.ps;have h2:=zCI s l (ds++[s.d ds m.y]) (zDn p m.y)
  show (zCq s ds p m.y m.ps++_).length≤_
  rw [List.length_append,List.length_cons];omega
theorem zD5 {p:Int} (h:0≤p∧p≤51):Behind [] p:=⟨h,fun _ h=>absurd h (by simp),fun _ h=>absurd h (by simp),fun _ h=>absurd h (by simp)⟩
theorem zD6 {s:Sl}:∀ (l:List MbN) (ds:List DoneP) (p:Int),(∀ m∈l,m.ok s)→Behind ds p→Behind (zHP s ds l) (zLx p l)
 |[],_,_,_,h=>h
 |m::l,ds,p,hm,h=>zD6 l (ds++[s.d ds m.y]) (zDn p m.y) (fun x hx=>hm x (by simp [hx])) (h.next (hm m (by simp)))
structure Along (c:Cod) (w:World) (sb:Nat) (hd:Nat→Value) (s:Sl) (p:Int) (ms:List MbN) (n:Nat) (G:List Nat):Prop where
 sta:∃ (S:Nat→Value) (z:Nat→Int) (F:List Nat),Sta c w sb S z n (zG (zHb s (ms.take n))) F (zB0 s (zHb s (ms.take n)) (zLx p (ms.take n)) (ms.drop n))∧(∀ j,j<21→S j=hd j)∧S 21=.int .i64 s.wide∧S 22=.int .i64 (zLx p (ms.take n))∧G=sb::(F++(S 23).ownBlock.toList)
theorem zDU (s:Sl):∀ (ms:List MbN) (ds:List DoneP),(zHP s ds ms).length=ds.length+ms.length
 |[],_=>rfl
 |m::ms,ds=>by
  show (zHP s (ds++[s.d ds m.y]) ms).length=_
  rw [zDU s ms];simp;omega
theorem zFI (s:Sl) (ms:List MbN):(zHb s ms).length=ms.length:=by simp [zHb,zDU]
theorem zFq {ms:List MbN} {n:Nat} {m:MbN} (h:ms[n]? =some m):ms.take (n+1)=ms.take n++[m]:=by rw [List.take_add_one,h];rfl
theorem zHQ {ms:List MbN} {n:Nat} {m:MbN} (h:ms[n]? =some m):ms.drop n=m::ms.drop (n+1):=by
 have hn:n<ms.length:=by
  rcases Nat.lt_or_ge n ms.length with h2|h2
  ·exact h2
  ·rw [List.getElem?_eq_none h2] at h;cases h
 rw [List.drop_eq_getElem_cons hn];rw [List.getElem?_eq_getElem hn] at h;injection h with h
 rw [h]
theorem zKe (s:Sl) (l:List MbN) (m:MbN):zHb s (l++[m])=zHb s l++[s.d (zHb s l) m.y]:=by simp [zHb,zHP]
theorem zG5 (p:Int) (l:List MbN) (m:MbN):zLx p (l++[m])=zDn (zLx p l) m.y:=by simp [zLx]
structure zNs (w:World) (X:Nat→Value) (m:MbN):Prop where
 cell:∀ j,j<482→X j=.int .i64 (m.y j)
 pcm:∃ (ao:Option Addr) (len cap:Nat),X 482=.slice ao len cap∧(len=if m.y 0=2 then 384 else 0)∧(m.y 0=2→∃ g off,ao=some ⟨g,off,none⟩∧∀ i,i<384→w.cell? ⟨g,off+i,none⟩=some (.int .u8 (m.ps i)))
structure MbOutN (w:World) (G:List Nat) (X:Nat→Value) (ya:Nat→Int) (m:MbN):Prop where
 cell:∀ j,j<482→X j=.int .i64 (ya j)
 nil:m.y 0≠2→X 482=.slice none 0 0
 pcm:m.y 0=2→∃ pb cap,X 482=.slice (some ⟨pb,0,none⟩) 384 cap∧PcmIs w pb m.ps∧pb∉G∧pb<w.heap.size
theorem MbOutN.step {w w':World} {G G' Y:List Nat} {X:Nat→Value} {ya:Nat→Int} {m:MbN} (h:MbOutN w G X ya m) (ho:Only Y w w') (hY:∀ i∈Y,i∈G∨w.heap.size≤i) (hG:∀ i∈G',i∈G∨w.heap.size≤i):MbOutN w' G' X ya m where
 cell:=h.cell
 nil:=h.nil
 pcm:=fun h2=>by
  obtain ⟨pb,cap,h3,h4,h5,h6⟩:=h.pcm h2;refine ⟨pb,cap,h3,h4.only ho (fun e=>?_),fun e=>?_,Nat.lt_of_lt_of_le h6 ho.size⟩
  ·rcases hY pb e with h7|h7
   ·exact h5 h7
   ·omega
  ·rcases hG pb e with h7|h7
   ·exact h5 h7
   ·omega
theorem Along.only {c:Cod} {w w':World} {sb n:Nat} {hd:Nat→Value} {s:Sl} {p:Int} {ms:List MbN} {G Y:List Nat} (h:Along c w sb hd s p ms n G) (hc:c.Ok) (ho:Only Y w w') (hY:∀ i∈G,i∉Y):Along c w' sb hd s p ms n G:=by
 obtain ⟨S,z,F,h1,h2,h3,h4,rfl⟩:=h.sta;exact ⟨S,z,F,h1.only hc ho (hY sb (by simp)) (fun g hg=>hY g (by simp [hg])) (fun i hi=>hY i (by simp [hi])),h2,h3,h4,rfl⟩
theorem Along.low {c:Cod} {w:World} {sb n:Nat} {hd:Nat→Value} {s:Sl} {p:Int} {ms:List MbN} {G:List Nat} (h:Along c w sb hd s p ms n G) (hc:c.Ok):∀ i∈G,i<w.heap.size:=by
 obtain ⟨S,z,F,h1,-,-,-,rfl⟩:=h.sta;intro i hi;simp only [List.mem_cons,List.mem_append,Option.mem_toList] at hi
 rcases hi with rfl|hi|hi
 ·exact h1.s.lt
 ·exact hc.low _ _ _ h1.c i hi
 ·obtain ⟨cur,hcur⟩:=zD h1.a hi;exact lt_of_block hcur
structure HdOk (s:Sl) (hd:Nat→Value) (cnt:Int):Prop where
 h0:hd 0=.int .i64 s.f
 h1:hd 1=.int .i64 cnt
 h2:hd 2=.int .i64 s.t
 h6:hd 6=.bool s.sp
 h7:hd 7=.int .i64 s.a0
 h8:hd 8=.int .i64 s.a1
 bf:s.f≤1000000
 bw:1≤s.wide∧s.wide≤1000000
 ba:(0≤s.a0∧s.a0≤8)∧0≤s.a1∧s.a1≤8
theorem HdOk.sl {s:Sl} {hd S:Nat→Value} {cnt:Int} (h:HdOk s hd cnt) (hS:∀ j,j<21→S j=hd j) (h21:S 21=.int .i64 s.wide):zNE s S:=
 ⟨by rw [hS 0 (by decide),h.h0],by rw [hS 2 (by decide),h.h2],by rw [hS 6 (by decide),h.h6],by rw [hS 7 (by decide),h.h7],by rw [hS 8 (by decide),h.h8],h21,h.bf,h.bw,h.ba⟩
theorem Left.along {c:Cod} {w w':World} {sb n:Nat} {hd S:Nat→Value} {s:Sl} {p:Int} {ms:List MbN} {m:MbN} {F F':List Nat} {v':Value} {z':Nat→Int} (h:Left c w w' sb S s n (zHb s (ms.take n)) F (zB0 s (zHb s (ms.take n)++[s.d (zHb s (ms.take n)) m.y]) (zDn (zLx p (ms.take n)) m.y) (ms.drop (n+1))) (zLx p (ms.take n)) m.y v' z' F')
 (hm:ms[n]? =some m) (hS:∀ j,j<21→S j=hd j) (h21:S 21=.int .i64 s.wide):Along c w' sb hd s p ms (n+1) (sb::(F'++v'.ownBlock.toList))∧Only (sb::(F++(S 23).ownBlock.toList)) w w'∧∀ i∈sb::(F'++v'.ownBlock.toList),i∈sb::(F++(S 23).ownBlock.toList)∨w.heap.size≤i:=by
 refine ⟨⟨_,z',F',by rw [zFq hm,zKe,zG5];exact h.sta,fun j hj=>?_,?_,?_,by rw [ZK]⟩,h.o,fun i hi=>?_⟩
 ·rw [ZN _ _ (by omega),ZN _ _ (by omega),hS j hj]
 ·rw [ZN _ _ (by omega),ZN _ _ (by omega),h21]
 ·rw [ZN _ _ (by omega),ZK,zFq hm,zG5]
 ·simp only [List.mem_cons,List.mem_append,Option.mem_toList] at hi ⊢
  rcases hi with rfl|hi|hi
  ·exact .inl (.inl rfl)
  ·rcases h.n i hi with h7|h7
   ·exact .inl (.inr (.inl h7))
   ·exact .inr h7
  ·rcases h.ga i hi with h7|h7
   ·exact .inl (.inr (.inr h7))
   ·exact .inr h7
theorem zF3 {α:Type} {l:List α} {n:Nat} {m:α} (h:l[n]? =some m):n<l.length:=(List.getElem?_eq_some_iff.1 h).1
theorem zJZ {c:Cod} {w:World} {wb sb n:Nat} {hd X:Nat→Value} {s:Sl} {p cnt:Int} {ms:List MbN} {m:MbN} {G:List Nat} (hc:c.Ok) (hT:c.T=31) (hpv:c.pv=.pointer (some ⟨wb,0,none⟩)) (hwr:c.wr=true)
 (hcell:∀ F r w,c.C F r w→w.cell? ⟨wb,0,none⟩=some (.pointer (some ⟨sb,0,none⟩))∧wb∈F) (h:Along c w sb hd s p ms n G) (hm:ms[n]? =some m) (hok:∀ m∈ms,m.ok s) (hp:0≤p∧p≤51)
 (hh:HdOk s hd cnt) (bn:n≤1000000) (hnc:(n:Int)<cnt) (hX:zNs w X m):
 Calls Tryz.prog 15 #[.pointer (some ⟨wb,0,none⟩),.agg (fnA 483 X)] w fun e w'=>e=.returned (.int .i64 0)∧∃ G',Along c w' sb hd s p ms (n+1) G'∧Only G w w'∧∀ i∈G',i∈G∨w.heap.size≤i:=by
 obtain ⟨S,z,F,h1,h2,h3,h4,rfl⟩:=h.sta;obtain ⟨ao,len,cap,q1,q2,q4⟩:=hX.pcm;have hn:=zF3 hm;rw [zHQ hm] at h1;have hb:=zD6 (ms.take n) [] p (fun x hx=>hok x (List.mem_of_mem_take hx)) (zD5 hp);refine (zNu hc hT hpv hwr hcell h1 (hh.sl h2 h3) h2 hh.h1 h4 bn (by rw [zFI,List.length_take];omega) hnc hb (hok m (List.mem_of_getElem? hm)) hX.cell q1 q2 q4).mono ?_;rintro e w' ⟨rfl,v',z',F',k1⟩;exact ⟨rfl,_,k1.along hm h2 h3⟩
def zNm (c:Cod) (w:World) (sb:Nat) (hd:Nat→Value) (s:Sl) (p:Int) (ms:List MbN) (n:Nat) (G:List Nat) (m:MbN) (e:Ending) (w':World):Prop:=∃ (Xf:Nat→Value) (G':List Nat),e=.returned (.tuple #[.agg (fnA 483 Xf),.int .i64 0])∧Along c w' sb hd s p ms (n+1) G'∧Only G w w'∧(∀ i∈G',i∈G∨w.heap.size≤i)∧MbOutN w' G' Xf (s.out (zHb s (ms.take n)) m.y) m
theorem zJu {c:Cod} {w:World} {rb sb n:Nat} {hd:Nat→Value} {s:Sl} {p cnt:Int} {ms:List MbN} {m:MbN} {G:List Nat} (hc:c.Ok) (hT:c.T=53) (hpv:c.pv=.pointer (some ⟨rb,0,none⟩)) (hwr:c.wr=false)
 (hcell:∀ F r w,c.C F r w→zKo w rb sb∧rb∈F) (h:Along c w sb hd s p ms n G) (hm:ms[n]? =some m) (hok:∀ m∈ms,m.ok s) (hp:0≤p∧p≤51)
 (hh:HdOk s hd cnt) (bn:n≤1000000) (hnc:(n:Int)<cnt):
 Calls Tryz.prog 19 #[.pointer (some ⟨rb,0,none⟩)] w (zNm c w sb hd s p ms n G m):=by
 obtain ⟨S,z,F,h1,h2,h3,h4,rfl⟩:=h.sta;have hn:=zF3 hm;rw [zHQ hm] at h1;have hb:=zD6 (ms.take n) [] p (fun x hx=>hok x (List.mem_of_mem_take hx)) (zD5 hp);refine (zNy hc hT hpv hwr hcell h1 (hh.sl h2 h3) h2 hh.h1 h4 bn (by rw [zFI,List.length_take];omega) hnc hb (hok m (List.mem_of_getElem? hm))).mono ?_;rintro e w' ⟨Xf,v',z',F',rfl,k1,k5,k6,k7⟩;have k2:=k1.along hm h2 h3;refine ⟨Xf,_,rfl,k2.1,k2.2.1,k2.2.2,⟨k5,k6,fun h2=>?_⟩⟩;obtain ⟨pb,cap,j1,j2,j3,j4,j5⟩:=k7 h2;refine ⟨pb,cap,j1,j2,?_,j2.lt⟩;simp only [List.mem_cons,List.mem_append,Option.mem_toList,not_or];exact ⟨fun e=>by have:=h1.s.lt;omega,j3,j4⟩
theorem zMV {w:World} {rb sb bb db tb sk n q k frn:Nat} {S:Nat→Value} {D:List Value} {s t:ByteArray} {code cnt:Int} {d d':Dec} (hR:RcIs w rb sb bb t (.pointer (some ⟨db,0,none⟩)) (frn:Int) code false) (hs:BlkIn w sb 75 106 S) (ha:w.ownsRow 0 103 46 (S 23) n D) (h1:S 1=.int .i64 cnt) (hn:cnt≤n) (hd:DecIs w db tb sk d) (hok:d.Ok) (ht:d.term=(1,0,d')) (hp:d'.pos=q+1) (hds:d.s.size≤140737488355328) (hss:s=t.extract frn t.size) (hfr:frn≤t.size) (hts:t.size≤140737488355328)
 (hq:q+1+k=8*s.size) (hk:k≤7) (hbt:zg s q=1) (hz:∀ j,j<k→zg s (q+1+j)=0):
 Calls Tryz.prog 21 #[.pointer (some ⟨rb,0,none⟩)] w fun e w'=>e=.returned (.int .i64 0)∧Only [rb,db,sk] w w':=by
 obtain ⟨c0,c1,c2,c3,c4,c5,c6⟩:=hR.cells;obtain ⟨ad,cap,hv⟩:=zEY ha;have s1:w.cell? ⟨sb,1,none⟩=some (.int .i64 cnt):=by rw [hs.cell 1 (by decide),h1]
 have s23:w.cell? ⟨sb,23,none⟩=some (.slice ad n cap):=by rw [hs.cell 23 (by decide),hv]
 have z6:=ZB hR 6;have hsz:s.size≤140737488355328:=by rw [hss,ByteArray.size_extract];omega
 have hterm:∀ wx,DecIs wx db tb sk d→Calls Tryz.prog 47 #[.pointer (some ⟨db,0,none⟩)] wx fun r w'=>r=.returned (.tuple #[.int .i64 1,.int .i64 0])∧DecIs w' db tb sk d'∧Only [db,sk] wx w':=by
  intro wx hx;have h:=(DecAt.bare hx hok).term hds;rw [ht] at h;exact h.mono fun _ _ ⟨k1,k2,k3⟩=>⟨k1,k2.is,k3⟩
 have hnd:=hR.neD hd;have HTerm:=zh hterm;have HR:=zh hR;have HD:=zh hd;have Hnd:=zh hnd;have Htr:=zh (fun (b:Nat) (wx:World) (h:RdIs wx b s q)=>zII b s q k wx h hq hk hbt hz hsz);have Hss:=zh hss;have Hsz:=zh hsz;have Hp:=zh hp;have hqs:q≤8*s.size:=by omega
 have Hqs:=zh hqs;have hq9:q≤1125899906842624:=by omega
 clear hR hd hs ha h1 hv hq hbt hz hsz hk hterm hnd hss ht hok hds hp hqs c5
 go_enter Tryz.func21,Tryz.ntmps21
 go_wp2
 go_quiet (fail)
 rename_i nq;have HR1:Hid (RcIs (w.drewN nq) rb sb bb t (.pointer (some ⟨db,0,none⟩)) (frn:Int) code false):=zh HR.out;have HD1:Hid (DecIs (w.drewN nq) db tb sk d):=zh (HD.out.drewN nq);have O1:Hid (Only [] w (w.drewN nq)):=zh ((Only.refl [] w).drewN nq);replace c1:(w.drewN nq).cell? ⟨rb,1,none⟩=some (.string t):=c1;replace c3:(w.drewN nq).cell? ⟨rb,3,none⟩=some (.pointer (some ⟨db,0,none⟩)):=c3;replace c4:(w.drewN nq).cell? ⟨rb,4,none⟩=some (.int .i64 frn):=c4;replace c6:(w.drewN nq).cell? ⟨rb,6,none⟩=some (.bool false):=c6;replace z6:(w.drewN nq).frozen? ⟨rb,6,none⟩=false:=z6;clear HR HD s1 s23 c0 c2;generalize w.drewN nq=w1 at*;have oS:Only [rb] w1 (w1.setCell ⟨rb,6,none⟩ (.bool true)):=(Only.refl _ w1).setCell (.inl (by simp)) _;have HR2:=zh (zHu HR1.out)
 have HD2:=zh (HD1.out.only oS (by simp;exact Ne.symm Hnd.out.1) (by simp;exact Ne.symm Hnd.out.2.1) (by simp;exact Ne.symm Hnd.out.2.2));have O2:Hid (Only [rb,db,sk] w (w1.setCell ⟨rb,6,none⟩ (.bool true))):=zh ((O1.out.mono (T:=[rb,db,sk]) (by simp)).trans (oS.mono (by simp)));clear oS HR1 HD1 O1
 go_wp2_with fail
 generalize w1.setCell ⟨rb,6,none⟩ (.bool true)=w2 at*;refine (HTerm.out w2 HD2.out).mono ?_;rintro e w3 ⟨rfl,q1,q2⟩;have HR3:=zh (HR2.out.only q2 (by simp;exact ⟨Hnd.out.1,Hnd.out.2.2⟩));have HD3:=zh q1;have O3:Hid (Only [rb,db,sk] w w3):=zh (O2.out.trans (q2.mono (by simp)));obtain ⟨-,d1,-,d3,d4,-,-⟩:=HR3.out.cells;clear q1 q2 HR2 HD2 O2 HTerm c1 c3 c4 c6 z6
 go_wp2_with fail
 obtain ⟨G,hG⟩:∃ G:Int,G=(frn:Int):=⟨_,rfl⟩;rw [←hG] at d4;have hG1:0≤G:=by omega
 have hG2:G≤(t.size:Int):=by omega
 have HG:=zh hG;clear hG
 go_region_held3 (fun w'=>w'.cell? ⟨rb,1,none⟩=some (.string t)∧w'.cell? ⟨rb,4,none⟩=some (.int .i64 G)) (first|exact ⟨d1,d4⟩|exact ⟨e0,e1⟩|go_keep|assumption)
  (first|(go_at_call 40;refine (zHt _ _).mono ?_;rintro r w4 ⟨rfl,k1,k2,k3⟩;have e0:=k2.cell (show World.cell? _ ⟨rb,1,none⟩=some (.string t) by assumption) (by simp);have e1:=k2.cell (show World.cell? _ ⟨rb,4,none⟩=some (.int .i64 G) by assumption) (by simp)))
 have hGt:G.toNat=frn:=by have:=HG.out;omega
 have o4:Only [] w3 w4:=(Only.refl [] w3).drew.trans k2;obtain ⟨tb2,htb2⟩:∃ tb2,tb2=w3.heap.size:=⟨_,rfl⟩;have HT:Hid (RdIs w4 tb2 s 0):=zh (by rw [Hss.out,←hGt,htb2];exact k1);have HR4:=zh (HR3.out.only o4 (by simp));have HD4:=zh (HD3.out.only o4 (by simp) (by simp) (by simp));have O4:Hid (Only [rb,db,sk] w w4):=zh (O3.out.trans (o4.mono (by simp)));have Hf:Hid (w.heap.size≤tb2):=zh (by rw [htb2];exact O3.out.size);have hat:Hid (∀ wx,DecIs wx db tb sk d'→Calls Tryz.prog 48 #[.pointer (some ⟨db,0,none⟩)] wx fun r w'=>r=.returned (.int .i64 ((q:Int)+1))∧wx=w'):=zh (fun wx hx=>by
  have h:=zL7 db tb sk d' wx hx;rw [Hp.out] at h;exact h)
 rw [←htb2];clear k1 k2 k3 e0 e1 d1 d3 d4 hG1 hG2 HR3 HD3 O3 hGt HG o4 htb2 Hp Hss;obtain ⟨-,-,-,d3,-,-,-⟩:=HR4.out.cells
 go_wp2_with fail
 refine (hat.out _ HD4.out).mono ?_;rintro e w5 ⟨rfl,rfl⟩;clear hat;go_wp2
 go_loopw [6] (fun v wr=>∃ m:Nat,m≤q∧v=.int .i64 (m:Int)∧Hid (RdIs wr tb2 s (q-m))∧Hid (Only [tb2] w4 wr)) (fun v _=>(intOf v).toNat)
 case atStart=>exact ⟨q,Nat.le_refl _,rfl,by rw [Nat.sub_self];exact HT,zh (Only.refl _ _)⟩
 case round=>
  obtain ⟨m,hm,rfl,h1,h2⟩:=hrel
  by_cases h0:m=0
  ·subst h0;rw [Nat.sub_zero] at h1
   go_wp2_with fail
   refine (Htr.out tb2 _ h1.out).mono ?_;rintro e w6 ⟨rfl,q1,q2⟩;have O6:Hid (Only [rb,db,sk] w w6):=zh (O4.out.trans' (h2.out.trans q2) (fun i hi=> .inr (by simp at hi;rw [hi];exact Hf.out)));clear q1 q2;go_wp2;go_ret;exact ⟨rfl,O6.out⟩
  ·obtain ⟨kk,hkk,hkm,hk0,hmin⟩:∃ kk:Nat,kk≤32∧kk≤m∧0<kk∧min (m:Int) 32=kk:=⟨min m 32,by omega,by omega,by omega,by omega⟩;obtain ⟨y,hy,hH⟩:=zDR s kk (q-m) (by have:=Hqs.out;omega);have hb:=zCL tb2 s (q-m) y kk wr h1.out hH hy hkk Hsz.out;rw [show q-m+kk=q-(m-kk) by omega] at hb;have HB:=zh hb;have Hmin:=zh hmin;have e2:Hid ((m:Int)-kk=((m-kk:Nat):Int)):=zh (by omega);clear hy hH hb hmin
   go_wp2_with fail
   rw [Hmin.out];refine HB.out.mono ?_;rintro e w6 ⟨rfl,q1,q2⟩;have H6:=zh q1;have O6:=zh (h2.out.trans q2);clear q1 q2;go_wp2;rw [e2.out];exact ⟨⟨m-kk,by omega,rfl,H6,O6⟩,by simp [intOf];omega⟩
def zBZ (s:Sl) (p:Int) (ms:List MbN):List Ask:=zB0 s [] p ms
def zCv (cabac:Bool) (s:Sl) (p:Int) (bs:List Int) (ms:List MbN):ByteArray:=
 if cabac then strOfNums (ZP (bs++List.replicate (zAw bs.length) 1))++strOfNums (ZP (((Enc.new (zAm p)).run (zd (zBZ s p ms))).term 1).bits)
 else strOfNums (ZP (bs++ZJ (zBZ s p ms)++zBE (bs++ZJ (zBZ s p ms)).length))
structure zNl (w0 w:World) (wb:Nat) (hd:Nat→Value) (s:Sl) (p:Int) (ms:List MbN) (text:ByteArray) (G0:List Nat) (c:Cod) (sb:Nat) (G:List Nat):Prop where
 ok:c.Ok
 T:c.T=31
 pv:c.pv=.pointer (some ⟨wb,0,none⟩)
 wr:c.wr=true
 cell:∀ F r w,c.C F r w→w.cell? ⟨wb,0,none⟩=some (.pointer (some ⟨sb,0,none⟩))∧wb∈F
 along:Along c w sb hd s p ms 0 G
 new:∀ i∈G,i∈G0∨w0.heap.size≤i
 ends:hd 1=.int .i64 ms.length→∀ (w1:World) (G1:List Nat),Along c w1 sb hd s p ms ms.length G1→Calls Tryz.prog 16 #[.pointer (some ⟨wb,0,none⟩)] w1 fun e w2=>e=.returned (.int .i64 0)∧Only G1 w1 w2∧
  ∀ w3,Only [] w2 w3→Calls Tryz.prog 18 #[.pointer (some ⟨wb,0,none⟩)] w3 fun e w4=>e=.returned (.string text)∧Only [] w3 w4
structure zNn (w0 w:World) (rb:Nat) (hd:Nat→Value) (s:Sl) (p:Int) (ms:List MbN) (c:Cod) (sb:Nat) (G:List Nat):Prop where
 ok:c.Ok
 T:c.T=53
 pv:c.pv=.pointer (some ⟨rb,0,none⟩)
 wr:c.wr=false
 cell:∀ F r w,c.C F r w→zKo w rb sb∧rb∈F
 along:Along c w sb hd s p ms 0 G
 new:∀ i∈G,w0.heap.size≤i
 ends:∀ (w1:World) (G1:List Nat),Along c w1 sb hd s p ms ms.length G1→Calls Tryz.prog 21 #[.pointer (some ⟨rb,0,none⟩)] w1 fun e w2=>e=.returned (.int .i64 0)∧Only G1 w1 w2
def zN7 (w0:World) (hd:Nat→Value) (s:Sl) (p:Int) (ms:List MbN) (text:ByteArray) (G0:List Nat) (e:Ending) (w:World):Prop:=
 ∃ (wb:Nat) (c:Cod) (sb:Nat) (G:List Nat),e=.returned (.tuple #[.pointer (some ⟨wb,0,none⟩),.int .i64 0])∧Only G0 w0 w∧zNl w0 w wb hd s p ms text G0 c sb G
def zOA (w0:World) (hd:Nat→Value) (s:Sl) (p:Int) (ms:List MbN) (e:Ending) (w:World):Prop:=
 ∃ (rb:Nat) (c:Cod) (sb:Nat) (G:List Nat),e=.returned (.tuple #[.pointer (some ⟨rb,0,none⟩),.int .i64 0])∧Only [] w0 w∧zNn w0 w rb hd s p ms c sb G
theorem zNJ (hd:Nat→Value) (wide qp:Int):(∀ j,j<21→stS hd wide qp j=hd j)∧stS hd wide qp 21=.int .i64 wide∧stS hd wide qp 22=.int .i64 qp∧stS hd wide qp 23=.slice none 0 0:=
 ⟨fun j hj=>by unfold stS;rw [if_pos hj],rfl,rfl,rfl⟩
theorem zCm {c:Cod} {w:World} {sb:Nat} {hd:Nat→Value} {s:Sl} {p:Int} {ms:List MbN} {F:List Nat} (hs:BlkIn w sb 75 106 (stS hd s.wide p)) (hc:c.C F (zBZ s p ms) w) (hn:sb∉F):Along c w sb hd s p ms 0 (sb::F):=by
 obtain ⟨h1,h2,h3,h4⟩:=zNJ hd s.wide p;have e:zV (stS hd s.wide p) (fun _=>0)=stS hd s.wide p:=by
  funext i
  unfold zV
  split
  ·rfl
  ·unfold stS;rw [if_neg (by omega),if_neg (by omega),if_neg (by omega),if_neg (by omega)]
 refine ⟨stS hd s.wide p,fun _=>0,F,⟨by rw [e];exact hs,?_,hc,hn,fun g hg=>by rw [h4] at hg;cases hg⟩,h1,h2,h3,by rw [h4];simp [Value.ownBlock]⟩;rw [h4];exact World.ownsRow_nil _ _ _ _
theorem zCn {c:Cod} {w:World} {sb:Nat} {hd:Nat→Value} {s:Sl} {p:Int} {ms:List MbN} {G:List Nat} (h:Along c w sb hd s p ms ms.length G):
 ∃ (S:Nat→Value) (F:List Nat),BlkIn w sb 75 106 S∧w.ownsRow 0 103 46 (S 23) ms.length (zG (zHb s ms))∧c.C F [] w∧(∀ j,j<21→S j=hd j)∧(∀ i∈F,i∈G):=by
 obtain ⟨S,z,F,h1,h2,-,-,rfl⟩:=h.sta;rw [List.take_length,List.drop_length] at h1;exact ⟨zV S z,F,h1.s,by rw [zI _ _ (by decide)];exact h1.a,h1.c,fun j hj=>by rw [zI _ _ (by omega),h2 j hj],fun i hi=>by simp [hi]⟩
theorem zt {w:World} {sb g:Nat} {S:Nat→Value} {cs:Array Value} {t:TypeId} (h:BlkIn w sb 75 106 S) (k:w.heap[g]? =some (.cells cs t (0,0))) (ht:106≠t):sb≠g:=by
 unfold BlkIn at h;exact ZC h k ht
theorem zFU {s:Sl} {p:Int} {ms:List MbN} (ba:s.a0≤8∧s.a1≤8) (hok:∀ m∈ms,m.ok s) (hp:0≤p∧p≤51):∀ a∈zBZ s p ms,a.fine:=zF9 s ba ms [] p hok (zD5 hp)
theorem zDX (s:Sl) (p:Int) {ms:List MbN} (h:ms.length≤20):(zBZ s p ms).length≤8000:=by
 have:=zCI s ms [] p;unfold zBZ;omega
theorem zF0 {hd:Nat→Value} {cnt qp:Int} {s:Sl} {bb:Nat} {ov:Value} {bs:List Int} {Pc:Array Value} {w:World} {cabac:Bool} {ms:List MbN} (hA:Asc w) (hA2:∀ g∈bb::ov.ownBlock.toList,0<g) (hb:WrIs w bb ov bs) (hl:bs.length<900000) (hp:Pc[0]? =some (.bool cabac)) (hh:zCb hd s.f cnt s.t s.a0 s.a1 qp) (h17:hd 17=.int .i64 qp) (hw:1≤s.wide∧s.wide≤8) (ht:0≤s.t∧s.t≤2) (hc:1≤cnt) (hq:0≤qp∧qp≤51) (ha0:0≤s.a0∧s.a0≤8) (ha1:0≤s.a1∧s.a1≤8)
 (hms:ms.length≤20) (hok:∀ m∈ms,m.ok s):
 Calls Tryz.prog 12 #[.pointer (some ⟨bb,0,none⟩),.agg (hdL hd).toArray,.agg Pc,.int .i64 s.wide] w (zN7 w hd s qp ms (zCv cabac s qp bs ms) (bb::ov.ownBlock.toList)):=by
 have hfine:=zFU ⟨ha0.2,ha1.2⟩ hok hq;have hlen:=zDX s qp hms;have hlow:=hb.low;have hcb:=hb.cells
 cases cabac with
 |false=>
  refine (zGO hp hh (by omega) (by omega) hc ht hq ha0 ha1).mono ?_;rintro e w' ⟨sb,wb,rfl,h1,h2,h3,h4,h5⟩;obtain ⟨T,hT⟩:∃ T,T=bs++ZJ (zBZ s qp ms):=⟨_,rfl⟩;have hb':WrIs w' bb ov bs:=hb.only h5 (by simp) (by simp);have hns:sb∉wb::bb::ov.ownBlock.toList:=by
   simp only [List.mem_cons,Option.mem_toList,not_or];unfold WcIs at h2;exact ⟨zt h1 h2 (by decide),by omega,fun e=>by have:=hlow.2 _ e;omega⟩
  refine ⟨wb,zMH wb sb bb T,sb,sb::wb::bb::ov.ownBlock.toList,rfl,h5.mono (by simp),⟨zKs _ _ _ _,rfl,rfl,rfl,?_,?_,?_,?_⟩⟩
  ·rintro F r w ⟨ov,bs,rfl,hW,-⟩;exact ⟨hW.cells.1,by simp⟩
  ·exact zCm h1 ⟨ov,bs,rfl,h2,hb',hT.symm,hfine,by omega⟩ hns
  ·intro i hi;simp only [List.mem_cons,Option.mem_toList] at hi ⊢
   rcases hi with rfl|rfl|hi
   ·exact .inr h3
   ·exact .inr h4
   ·exact .inl hi
  ·intro hcn w1 G1 hal;rw [hh.h1] at hcn;injection hcn with _ hcn
   obtain ⟨S,F,q1,q2,⟨ov1,bs1,rfl,hW,hwr,ht,-,hle⟩,q4,q5⟩:=zCn hal;have e1:bs1=T:=by rw [←ht];simp [ZJ]
   subst e1;refine (zMG hW q1 q2 (by rw [q4 1 (by decide),hh.h1]) (by omega) hwr (by simp only [List.length_nil] at hle;omega)).mono ?_;rintro e w2 ⟨rfl,ov2,k1,k2,k3⟩;refine ⟨rfl,k3.mono (fun i hi=>q5 i hi),fun w3 ho=>?_⟩;refine (zJb (k1.only ho (by simp)) (k2.only ho (by simp) (by simp))).mono ?_;rintro e w4 ⟨rfl,rfl⟩;refine ⟨?_,Only.refl _ _⟩;unfold zCv;rw [if_neg (by decide),hT]
 |true=>
  refine (zGN hA hA2 hb hl hp hh h17 (by omega) (by omega) hc ht hq ha0 ha1).mono ?_;rintro e w' ⟨sb,wb,eb,tb,sk,ov',rfl,h1,h2,h3,h4,h5,g1,g2,g3,g4,g5⟩;obtain ⟨T,hT⟩:∃ T,T=(Enc.new (zAm qp)).run (zd (zBZ s qp ms)):=⟨_,rfl⟩;obtain ⟨cc,hcc⟩:=h4.cells;have hns:sb∉wb::bb::eb::tb::sk::((Value.slice none 0 0).ownBlock.toList++ov'.ownBlock.toList):=by
   simp only [List.mem_cons,List.mem_append,Option.mem_toList,not_or];unfold WcIs at h2;refine ⟨zt h1 h2 (by decide),zt h1 hcc (by decide),zt h1 h3.cells (by decide),zt h1 h3.tab (by decide),zt h1 h3.sts (by decide),fun e=>(by cases e),fun e=>?_⟩;obtain ⟨cur,hcur⟩:=zD h4.out e;exact zt h1 hcur (by decide) rfl
  have hxl:(Enc.new (zAm qp)).st.length=256:=by
   rw [show (Enc.new (zAm qp)).st.length=(zAm qp).length by simp [Enc.new,Zl],zAE]
  refine ⟨wb,zMI wb sb bb eb tb sk ov' (bs++List.replicate (zAw bs.length) 1) T,sb,sb::wb::bb::eb::tb::sk::((Value.slice none 0 0).ownBlock.toList++ov'.ownBlock.toList),rfl,h5.only,⟨zKy _ _ _ _ _ _ _ _ _,rfl,rfl,rfl,?_,?_,?_,?_⟩⟩
  ·rintro F r w ⟨ov,e,rfl,hW,-⟩;exact ⟨hW.cells.1,by simp⟩
  ·refine zCm h1 ⟨.slice none 0 0,Enc.new (zAm qp),rfl,h2,h3,Enc.live_new _,hxl,h4,fun g hg=>(by cases hg),hT.symm,hfine,?_⟩ hns;have h0:(Enc.new (zAm qp)).cost=0:=by simp [Enc.cost,Enc.new]
   omega
  ·intro i hi;simp only [List.mem_cons,List.mem_append,Option.mem_toList] at hi ⊢
   rcases hi with rfl|rfl|rfl|rfl|rfl|rfl|hi|hi
   ·exact .inr g1
   ·exact .inr g2
   ·exact .inl (.inl rfl)
   ·exact .inr g3
   ·exact .inr g4
   ·exact .inr g5
   ·cases hi
   ·rcases h5.new i hi with h6|h6
    ·exact .inl (.inr h6)
    ·exact .inr h6
  ·intro hcn w1 G1 hal;rw [hh.h1] at hcn;injection hcn with _ hcn
   obtain ⟨S,F,q1,q2,⟨ov1,e1,rfl,hW,he,hlv,hst,hwr,hd,ht,-,hle⟩,q4,q5⟩:=zCn hal;have ee:e1=T:=ht;subst ee;have hco:e1.cost≤380000000:=by simp only [List.length_nil] at hle;omega
   refine (zMF hW q1 q2 (by rw [q4 1 (by decide),hh.h1]) (by omega) hwr he hlv.good (by omega) hd).mono ?_;rintro e w2 ⟨rfl,eo',k1,k2,k3,k4⟩;refine ⟨rfl,k4.mono (fun i hi=>q5 i (by
    simp only [List.mem_cons,List.mem_append] at hi ⊢
    rcases hi with h|h|h|h<;>simp [h])),fun w3 ho=>?_⟩
   refine (zJa (k1.only ho (by simp)) (k3.only ho (by simp) (by simp)) (k2.only ho (by simp) (by simp) (by simp) (by simp)) ?_).mono ?_
   ·have hg:=(e1.good_term 1 hlv.good).2;have hf:zAw bs.length<8:=by unfold zAw;omega
    unfold Enc.cost at hg hco;rw [strOfNums_size,strOfNums_size,zR,zR,List.length_append,List.length_replicate];omega
   ·rintro e w4 ⟨rfl,k5⟩;refine ⟨?_,k5⟩;unfold zCv;rw [if_pos rfl,hT]
theorem zF1 {hd:Nat→Value} {cnt qp:Int} {s:Sl} {bs:List Int} {Pc:Array Value} {w:World} {cabac:Bool} {ms:List MbN} (hA:Asc w) (hbs:∀ b∈bs,b=0∨b=1) (hl:bs.length<900000) (hp:Pc[0]? =some (.bool cabac)) (hh:zCb hd s.f cnt s.t s.a0 s.a1 qp) (h17:hd 17=.int .i64 qp) (hw:1≤s.wide∧s.wide≤8) (ht:0≤s.t∧s.t≤2) (hc:1≤cnt) (hq:0≤qp∧qp≤51) (ha0:0≤s.a0∧s.a0≤8) (ha1:0≤s.a1∧s.a1≤8)
 (hcnt:cnt=ms.length) (hms:ms.length≤20) (hok:∀ m∈ms,m.ok s):
 Calls Tryz.prog 17 #[.string (zCv cabac s qp bs ms),.int .i64 bs.length,.agg (hdL hd).toArray,.agg Pc,.int .i64 s.wide] w (zOA w hd s qp ms):=by
 have hfine:=zFU ⟨ha0.2,ha1.2⟩ hok hq;have hlen:=zDX s qp hms
 cases cabac with
 |false=>
  obtain ⟨B,hB⟩:∃ B,B=bs++ZJ (zBZ s qp ms):=⟨_,rfl⟩;have hbl:(ZJ (zBZ s qp ms)).length≤2500*8000:=by
   have:=zCa (zBZ s qp ms) hfine;omega
  have hbb:∀ b∈B++zBE B.length,b=0∨b=1:=by
   intro b hb;rw [hB] at hb;simp only [List.mem_append] at hb
   rcases hb with (hb|hb)|hb
   ·exact hbs b hb
   ·exact zEP _ hfine b hb
   ·exact zIq _ b hb
  obtain ⟨tx,hs⟩:∃ tx,tx=strOfNums (ZP (B++zBE B.length)):=⟨_,rfl⟩;have htx:zCv false s qp bs ms=tx:=by unfold zCv;rw [if_neg (by decide),hs,hB]
  have hBl:B.length=bs.length+(ZJ (zBZ s qp ms)).length:=by rw [hB,List.length_append]
  have htl:=zGF B.length;have hsz:8*tx.size=B.length+(zBE B.length).length:=by
   rw [hs,strOfNums_size,zR,List.length_append,htl];omega
  have hH:=zEJ hbb;rw [←hs,hB,List.append_assoc,←hB] at hH;have hH2:=hH.right;rw [Nat.zero_add,show bs.length=8*(bs.length/8)+bs.length%8 by omega] at hH2;have hH3:=zDQ hH2 (by omega);have hs1:(tx.extract (bs.length/8) tx.size).size=tx.size-bs.length/8:=by rw [ByteArray.size_extract];omega
  obtain ⟨y,hy,hH0⟩:=zDR (tx.extract (bs.length/8) tx.size) (bs.length%8) 0 (by omega);rw [htx];refine (zGQ (by omega) (by omega) rfl hy hH0 hp hh (by omega) (by omega) hc ht hq ha0 ha1).mono ?_;rintro e w' ⟨sb,rb,bb,rfl,h1,h2,h3,g1,g2,g3,h5⟩;have hns:sb∉[rb,bb]:=by
   simp only [List.mem_cons,List.not_mem_nil,or_false,not_or];unfold RcIs at h2;unfold RdIs at h3;exact ⟨zt h1 h2 (by decide),zt h1 h3 (by decide)⟩
  refine ⟨rb,zMX rb sb bb tx (tx.extract (bs.length/8) tx.size) 0 (zBE B.length),sb,[sb,rb,bb],rfl,h5,⟨zLA _ _ _ _ _ _ _,rfl,rfl,rfl,?_,?_,?_,?_⟩⟩
  ·rintro F r w ⟨p,rfl,hW,-⟩;obtain ⟨c0,-,-,-,-,c5,c6⟩:=hW.cells;exact ⟨⟨c0,c5,c6⟩,by simp⟩
  ·exact zCm h1 ⟨bs.length%8,rfl,h2,h3,hH3,hfine,by rw [hs1,List.length_append];omega,by rw [hs1];omega⟩ hns
  ·intro i hi;simp only [List.mem_cons,List.not_mem_nil,or_false] at hi
   rcases hi with rfl|rfl|rfl<;>assumption
  ·intro w1 G1 hal;obtain ⟨S,F,q1,q2,⟨p,rfl,hW,hR,hHp,-,hpl,hps⟩,q4,q5⟩:=zCn hal;rw [show ZJ []++zBE B.length=zBE B.length from rfl] at hHp hpl;obtain ⟨t1,t2⟩:=zGv hHp;refine (zMW (k:=(8-(B.length+1)%8)%8) hW q1 q2 (by rw [q4 1 (by decide),hh.h1]) (by omega) hR (by omega) (by omega) t1 t2 hps).mono ?_;rintro e w2 ⟨rfl,k1⟩;exact ⟨rfl,k1.mono (fun i hi=>q5 i hi)⟩
 |true=>
  obtain ⟨ops,hops⟩:∃ ops,ops=zd (zBZ s qp ms):=⟨_,rfl⟩;have hfit:∀ o∈ops,o.fits 256:=by rw [hops];exact zCy _ hfine
  have hfit2:∀ o∈ops,o.fits (zAm qp).length:=by rw [zAE];exact hfit
  obtain ⟨b1,b2,b3,b4⟩:=Read.begins (zAm qp) ops hfit2;have hdl:=zCE _ hfine;rw [←hops] at hdl;have hxl:(Enc.new (zAm qp)).st.length=(zAm qp).length:=by simp [Enc.new,Zl]
  have hlive:=(Enc.new (zAm qp)).live_run ops (Enc.live_new _) (fun o ho=>by rw [hxl];exact hfit2 o ho);have hc0:(Enc.new (zAm qp)).cost=0:=by simp [Enc.cost,Enc.new]
  have hcost:=hlive.2.2;rw [hc0] at hcost;obtain ⟨en,hen⟩:∃ en,en=(Enc.new (zAm qp)).run ops:=⟨_,rfl⟩;rw [←hen] at b2 b3 b4 hlive hcost;obtain ⟨eb1,-,-,eb4⟩:=en.end_bits hlive.1;obtain ⟨X,hX⟩:∃ X,(en.term 1).bits=X++[1]:=by rw [en.term_yes hlive.1];exact ⟨_,rfl⟩
  have hgt:=(en.good_term 1 hlive.1.good).2;have hEl:(en.term 1).bits.length≤400000000:=by
   unfold Enc.cost at hgt hcost;omega
  obtain ⟨A,hAd⟩:∃ A,A=strOfNums (ZP (bs++List.replicate (zAw bs.length) 1)):=⟨_,rfl⟩;have hfill:zAw bs.length<8∧(bs.length+zAw bs.length)%8=0:=by unfold zAw;omega
  have hAs:A.size=(bs.length+7)/8:=by
   rw [hAd,strOfNums_size,zR,List.length_append,List.length_replicate];omega
  have hEs:en.text.size=((en.term 1).bits.length+7)/8:=by
   unfold Enc.text;rw [strOfNums_size,zR]
  have hnth:∀ (i:Nat),8*en.text.size>i→zg en.text i=(en.term 1).bits.getD i 0:=fun i hi=>by
   unfold Enc.text;exact zI1 _ eb4 i (by rw [←hEs];omega)
  have htx:zCv true s qp bs ms=A++en.text:=by unfold zCv Enc.text;rw [if_pos rfl,hAd,hen,hops]
  have hss:(A++en.text).size=A.size+en.text.size:=ByteArray.size_append;have hext:(A++en.text).extract ((bs.length+7)/8) (A++en.text).size=en.text:=by rw [←hAs];exact zGh A en.text
  have hHA:=(zEJ (bs:=bs++List.replicate (zAw bs.length) 1) (fun b hb=>by
   rcases List.mem_append.1 hb with h|h
   ·exact hbs b h
   ·exact .inr (List.eq_of_mem_replicate h))).right
  rw [←hAd,Nat.zero_add] at hHA;have hHF:=hHA.more en.text;rw [show bs.length=8*(bs.length/8)+bs.length%8 by omega] at hHF;have hF:=zDQ hHF (by omega);rw [show 8*(bs.length/8)+bs.length%8=bs.length by omega] at hF;obtain ⟨y,hy,hH0⟩:=zDR ((A++en.text).extract (bs.length/8) (A++en.text).size) (bs.length%8) 0 (by rw [ByteArray.size_extract];omega);have hbc:zp en.text=0:=by
   unfold zp;rw [if_neg b2,if_neg b3]
  rw [htx];refine (zGP (by omega) (by omega) rfl hy hH0 hF hA h17 (by rw [hext];exact hbc) hp hh (by omega) (by omega) hc ht hq ha0 ha1).mono ?_;rintro e w' ⟨sb,rb,bb,db,tb,sk,rfl,h1,h2,h3,g1,g2,g3,g4,g5,g6,h5⟩;rw [hext] at h3;have hns:sb∉[rb,db,tb,sk]:=by
   simp only [List.mem_cons,List.not_mem_nil,or_false,not_or];unfold RcIs at h2;exact ⟨zt h1 h2 (by decide),zt h1 h3.cells (by decide),zt h1 h3.tab (by decide),zt h1 h3.sts (by decide)⟩
  refine ⟨rb,zNa rb sb bb db tb sk (A++en.text) ((bs.length+7)/8:Nat) (zAm qp) ops,sb,[sb,rb,db,tb,sk],rfl,h5,⟨zLV _ _ _ _ _ _ _ _ _ _,rfl,rfl,rfl,?_,?_,?_,?_⟩⟩
  ·rintro F r w ⟨d,j,rfl,hW,-⟩;obtain ⟨c0,-,-,-,-,c5,c6⟩:=hW.cells;exact ⟨⟨c0,c5,c6⟩,by simp⟩
  ·exact zCm h1 ⟨Dec.begin en.text (zAm qp),0,rfl,h2,h3,zM3 _ _ hbc,b4,by rw [List.drop_zero];exact hops,hfine,zAE _,hfit,by show en.text.size≤_;omega⟩ hns
  ·intro i hi;simp only [List.mem_cons,List.not_mem_nil,or_false] at hi
   rcases hi with rfl|rfl|rfl|rfl|rfl<;>assumption
  ·intro w1 G1 hal;obtain ⟨S,F,q1,q2,⟨d,j,rfl,hW,hD,hdo,hR,hdr,-,-,-,hds⟩,q4,q5⟩:=zCn hal;have hj:ops.length≤j:=by
    have:(ops.drop j).length=0:=by rw [hdr];rfl
    rw [List.length_drop] at this;omega
   have hR2:Read (zAm qp) ops ops.length d:=⟨by have:=hR.meets;rwa [List.take_of_length_le hj,←List.take_length (l:=ops)] at this,hR.text⟩;obtain ⟨r1,-,-,r4⟩:=Read.ends (zAm qp) ops d hfit2 hR2;rw [←hen] at r4;have htx2:d.s=en.text:=by rw [hen];exact hR.text
   have hXl:(en.term 1).bits.length=X.length+1:=by rw [hX];simp
   refine (zMV (s:=en.text) (q:=d.pos-1) (k:=8*en.text.size-d.pos) hW q1 q2 (by rw [q4 1 (by decide),hh.h1]) (by omega) hD hdo r1 (by show d.pos=_;omega) hds hext.symm (by omega) (by omega) (by omega) (by omega) ?_ ?_).mono ?_
   ·rw [hnth _ (by omega),hX,show d.pos-1=X.length by omega];simp
   ·intro i hi;rw [hnth _ (by omega),zE _ _ (by omega)]
   ·rintro e w2 ⟨rfl,k1⟩;exact ⟨rfl,k1.mono (fun i hi=>q5 i (by
     simp only [List.mem_cons,List.not_mem_nil,or_false] at hi ⊢
     rcases hi with h|h|h<;>simp [h]))⟩
def zN4 (f cnt t a0 a1 qp wide:Int):Prop:=(1≤wide∧wide≤8)∧0≤f∧1≤cnt∧(0≤t∧t≤2)∧(0≤qp∧qp≤51)∧(0≤a0∧a0≤8)∧0≤a1∧a1≤8
theorem zFT {p q:Prop} [Decidable p] [Decidable q] (h:true=(decide p&&decide q)):p∧q:=by simpa using h.symm
theorem zHk {hd:Nat→Value} {f cnt t a0 a1 qp wide:Int} {w:World} (hh:zCb hd f cnt t a0 a1 qp) (hbad:¬ zN4 f cnt t a0 a1 qp wide):
 Calls Tryz.prog 32 #[.agg (hdL hd).toArray,.int .i64 wide] w fun e w'=>e=.returned (.tuple #[.pointer none,.int .i64 2100])∧Only [] w w':=by
 obtain ⟨HL,hHL⟩:∃ HL,HL=hdL hd:=⟨_,rfl⟩;have hat:∀ i,i<21→(w.alloc (.cells HL.toArray 26)).cell? ⟨w.heap.size,i,none⟩=some (hd i):=fun i hi=>by
  rw [zA (ZA w _),hHL]
  simpa using zF7 hd i hi
 have c0:=hat 0 (by decide);have c1:=hat 1 (by decide);have c2:=hat 2 (by decide);have c7:=hat 7 (by decide);have c8:=hat 8 (by decide);have c17:=hat 17 (by decide);rw [hh.h0] at c0;rw [hh.h1] at c1;rw [hh.h2] at c2;rw [hh.h7] at c7;rw [hh.h8] at c8;rw [hh.h17] at c17;have O1:Hid (Only [] w (w.alloc (.cells HL.toArray 26))):=zh ((Only.refl [] w).alloc _);have Hbad:=zh hbad;rw [←hHL];clear hh hHL hat hbad
 go_enter Tryz.func32,Tryz.ntmps32
 go_wp2_with fail
 refine (zAY wide _ _ _).mono ?_;rintro e w' ⟨rfl,rfl⟩;generalize w.alloc (.cells HL.toArray 26)=w1 at*;obtain ⟨b1,hb1⟩:∃ b,b=(decide (1≤wide)&&decide (wide≤8)):=⟨_,rfl⟩;rw [←hb1];have B1:=zh hb1;clear hb1
 cases b1
 ·go_wp2;go_ret2;exact ⟨rfl,O1.out⟩
 by_cases hf:0≤f
 case neg=>
  go_wp2;go_ret2;exact ⟨rfl,O1.out⟩
 by_cases hc:1≤cnt
 case neg=>
  go_wp2;go_ret2;exact ⟨rfl,O1.out⟩
 go_wp2_with fail
 refine (zAY t _ _ _).mono ?_;rintro e w' ⟨rfl,rfl⟩;obtain ⟨b2,hb2⟩:∃ b,b=(decide (0≤t)&&decide (t≤2)):=⟨_,rfl⟩;rw [←hb2];have B2:=zh hb2;clear hb2
 cases b2
 ·go_wp2;go_ret2;exact ⟨rfl,O1.out⟩
 go_wp2_with fail
 refine (zAY qp _ _ _).mono ?_;rintro e w' ⟨rfl,rfl⟩;obtain ⟨b3,hb3⟩:∃ b,b=(decide (0≤qp)&&decide (qp≤51)):=⟨_,rfl⟩;rw [←hb3];have B3:=zh hb3;clear hb3
 cases b3
 ·go_wp2;go_ret2;exact ⟨rfl,O1.out⟩
 go_wp2_with fail
 refine (zAY a0 _ _ _).mono ?_;rintro e w' ⟨rfl,rfl⟩;obtain ⟨b4,hb4⟩:∃ b,b=(decide (0≤a0)&&decide (a0≤8)):=⟨_,rfl⟩;rw [←hb4];have B4:=zh hb4;clear hb4
 cases b4
 ·go_wp2;go_ret2;exact ⟨rfl,O1.out⟩
 go_wp2_with fail
 refine (zAY a1 _ _ _).mono ?_;rintro e w' ⟨rfl,rfl⟩;obtain ⟨b5,hb5⟩:∃ b,b=(decide (0≤a1)&&decide (a1≤8)):=⟨_,rfl⟩;rw [←hb5];have B5:=zh hb5;clear hb5
 cases b5
 ·go_wp2;go_ret2;exact ⟨rfl,O1.out⟩
 exact absurd ⟨zFT B1.out,hf,hc,zFT B2.out,zFT B3.out,zFT B4.out,zFT B5.out⟩ Hbad.out
theorem zEm {hd:Nat→Value} {f cnt t a0 a1 qp wide:Int} {bb:Nat} {Pc:Array Value} {w:World} (hh:zCb hd f cnt t a0 a1 qp) (hbad:¬ zN4 f cnt t a0 a1 qp wide):
 Calls Tryz.prog 12 #[.pointer (some ⟨bb,0,none⟩),.agg (hdL hd).toArray,.agg Pc,.int .i64 wide] w fun e w'=>e=.returned (.tuple #[.pointer none,.int .i64 2100])∧Only [] w w':=by
 have hbg:=fun (wx:World)=>zHk (w:=wx) hh hbad
 obtain ⟨HL,hHL⟩:∃ HL,HL=hdL hd:=⟨_,rfl⟩;have O1:Hid (Only [] w ((w.alloc (.cells HL.toArray 26)).alloc (.cells Pc 28))):=zh (((Only.refl [] w).alloc _).alloc _);have HR:Hid (((w.alloc (.cells HL.toArray 26)).alloc (.cells Pc 28)).rangeAt w.heap.size 0 HL):=zh (zAA (ZE _ (ZA w _)));have HLen:=zh (show (Tryz.prog.info? 26).map (·.size)=some HL.length by rw [hHL];show _=some 21;kernel_rfl);rw [←hHL] at hbg ⊢;have HBG:=zh hbg;clear hbg hHL hh hbad
 go_enter Tryz.func12,Tryz.ntmps12
 go_wp2_with (with_reducible refine wpList_load_mid rfl 26 _ rfl w.heap.size 0 rfl HL _ HR.out Tryz.underlying26 rfl HLen.out ?_)
 refine (HBG.out _).mono ?_;rintro e w1 ⟨rfl,o1⟩;have O2:=zh (O1.out.trans o1);clear o1 HR;go_wp2;go_ret2;exact ⟨rfl,O2.out⟩
theorem zKr {c:Cod} {w:World} {wb sb n len cap:Nat} {S X:Nat→Value} {hd:Nat→Value} {z:Nat→Int} {ds:List DoneP} {F:List Nat} {r:List Ask} {y:Nat→Int} {cnt:Int} {s:Sl} {ao:Option Addr} (hc:c.Ok)
 (hcell:∀ F r w,c.C F r w→w.cell? ⟨wb,0,none⟩=some (.pointer (some ⟨sb,0,none⟩))∧wb∈F) (h:Sta c w sb S z n (zG ds) F r)
 (hs:zNE s S) (hS:∀ j,j<21→S j=hd j) (h1:hd 1=.int .i64 cnt) (hnc:(n:Int)<cnt) (ht:s.t=0∨s.t=1∨s.t=2)
 (hX:∀ j,j<482→X j=.int .i64 (y j)) (h482:X 482=.slice ao len cap) (hno:¬ zDp y len s.t s.a0 s.a1):
 Calls Tryz.prog 15 #[.pointer (some ⟨wb,0,none⟩),.agg (fnA 483 X)] w fun e w'=>e=.returned (.int .i64 2101)∧Only [] w w':=by
 have hat:=fun (i:Nat) (hi:i<21)=>(show (hdL hd).toArray[i]? =some (S i) by rw [hS i hi];simpa using zF7 hd i hi)
 have hmay:=fun wx=>zL0 (len:=len) (cap:=cap) (ao:=ao) (y:=y) (X:=X) (Hc:=(hdL hd).toArray) (w:=wx) ht (by rw [hat 2 (by decide),hs.h2]) (by rw [hat 7 (by decide),hs.h7]) (by rw [hat 8 (by decide),hs.h8]) hs.ba hX h482
 obtain ⟨XL,hXL⟩:∃ XL,XL=(fnA 483 X).toList:=⟨_,rfl⟩;obtain ⟨HL,hHL⟩:∃ HL,HL=hdL hd:=⟨_,rfl⟩;have eX:fnA 483 X=XL.toArray:=by rw [hXL,Zq]
 have hsl:=h.s.lt;have hB:BlkIn (w.alloc (.cells XL.toArray 51)) w.heap.size 483 51 X:=by
  unfold BlkIn;rw [ZA,eX]
 have hO:Only [] w (w.alloc (.cells XL.toArray 51)):=(Only.refl [] w).alloc _;have hrX:=hB.range;rw [←hXL] at hrX;have hSt:=h.only hc hO (by simp) (by simp) (by simp);have hrH:(w.alloc (.cells XL.toArray 51)).rangeAt sb 0 HL:=fun j v hj=>by
  have hjl:j<21:=by
   apply Classical.byContradiction
   intro e;rw [hHL,List.getElem?_eq_none (by show 21≤j;omega)] at hj
   cases hj
  rw [Nat.zero_add,hSt.cell j (by omega),hS j hjl];rw [hHL,zF7 hd j hjl] at hj;exact hj
 have hXi:(Tryz.prog.info? 51).map (·.size)=some XL.length:=by rw [hXL,zM];kernel_rfl
 have hHi:(Tryz.prog.info? 26).map (·.size)=some HL.length:=by rw [hHL];show _=some 21;kernel_rfl
 have cw1:=(hcell F _ _ hSt.c).1;have cs1:(w.alloc (.cells XL.toArray 51)).cell? ⟨sb,1,none⟩=some (.int .i64 cnt):=by rw [hSt.cell 1 (by decide),hS 1 (by decide),h1]
 have cs23:(w.alloc (.cells XL.toArray 51)).cell? ⟨sb,23,none⟩=some (S 23):=hSt.cell 23 (by decide);obtain ⟨ad,capd,hv23⟩:=h.slice;rw [hv23] at cs23;rw [eX,←hHL] at hmay;rw [eX];have HM:=zh hmay;have Hno:=zh hno;have HrX:=zh hrX;have HrH:=zh hrH;have HXi:=zh hXi;have HHi:=zh hHi;have HSt:=zh hSt;have HB:=zh hB;have HO:=zh hO;have HS:=zh hS;have Hv23:=zh hv23;clear hmay hno hrX hrH hXi hHi hSt hB hO hXL hHL eX hS hv23 hat
 go_enter Tryz.func15,Tryz.ntmps15
 go_wp2_with fail
 generalize w.alloc (.cells XL.toArray 51)=w1 at*
 go_region
 rw [show decide (cnt≤(n:Int))=false from decide_eq_false (by omega)];have od:Only [] w1 w1.drew:=(Only.refl [] w1).drew;replace HSt:=zh (HSt.out.only hc od (by simp) (by simp) (by simp));replace HB:=zh (HB.out.only od (by simp));replace HO:=zh (HO.out.trans od);replace HrX:Hid (w1.drew.rangeAt w.heap.size 0 XL):=zh HrX.out;replace HrH:Hid (w1.drew.rangeAt sb 0 HL):=zh HrH.out;replace cw1:w1.drew.cell? ⟨wb,0,none⟩=some (.pointer (some ⟨sb,0,none⟩)):=cw1;replace cs1:w1.drew.cell? ⟨sb,1,none⟩=some (.int .i64 cnt):=cs1;clear od cs23;generalize w1.drew=w1 at*
 go_wp2_with fail
 refine zH (by kernel_rfl) (fun w'=>w'.cell? ⟨wb,0,none⟩=some (.pointer (some ⟨sb,0,none⟩))∧w'.rangeAt w.heap.size 0 XL∧w'.rangeAt sb 0 HL) 10 ?_;have hS0:(fun w'=>w'.cell? ⟨wb,0,none⟩=some (.pointer (some ⟨sb,0,none⟩))∧w'.rangeAt w.heap.size 0 XL∧w'.rangeAt sb 0 HL) w1.drew:=⟨cw1,HrX.out,HrH.out⟩;refine AnyL.tl 0 rfl (yieldsIf_load_mid (by rfl) _ _ rfl w.heap.size 0 rfl XL _ (fun w' h=>h.2.1) Tryz.underlying51 rfl HXi.out) ?_;refine AnyL.tk 1 (h:=?_);refine AnyL.tk 2 (h:=?_);refine AnyL.tk 3 (h:=?_);refine AnyL.tk 4 (h:=?_);refine AnyL.tk 5 (h:=?_);refine AnyL.tk 6 (h:=?_);refine AnyL.tl 7 rfl (yieldsIf_load_mid (by rfl) _ _ rfl sb 0 rfl HL _ (fun w' h=>h.2.2) Tryz.underlying26 rfl HHi.out) ?_;refine AnyL.on 8 (h:=fun K hK=>?_);rw [if_pos (by rfl)];go_simp;refine (HM.out w1.drew).mono ?_;rintro e w2 ⟨b2,rfl,hb2,ho2⟩;obtain rfl:b2=false:=by
  cases b2 with
  |false=>rfl
  |true=>exact absurd (hb2.1 rfl) Hno.out
 have hS1:(fun w'=>w'.cell? ⟨wb,0,none⟩=some (.pointer (some ⟨sb,0,none⟩))∧w'.rangeAt w.heap.size 0 XL∧w'.rangeAt sb 0 HL) w2:=⟨ho2.cell hS0.1 (by simp),fun j v hj=>ho2.cell (hS0.2.1 j v hj) (by simp),fun j v hj=>ho2.cell (hS0.2.2 j v hj) (by simp)⟩;have HO2:=zh (HO.out.trans ((Only.refl [] w1).drew.trans ho2));clear ho2 hb2;refine hK _ _ (fun _=>hS1) (fun hKq=>?_);clear hK K hKq
 try simp only [zpt]
 refine AnyL.on 9 (h:=fun K hK=>?_);go_simp;refine hK _ _ (fun _=>hS1) (fun hKq=>?_);clear hK K hKq
 try simp only [zpt]
 refine AnyL.on 10 (h:=fun K hK=>?_);go_simp;refine hK _ _ (fun _=>hS1) (fun hKq=>?_);clear hK K hKq
 try simp only [zpt]
 refine AnyL.dn (h:=?_);clear hS0 hS1 HSt HB HO HrX HrH HM cw1 cs1;go_wp2;go_ret;exact ⟨rfl,HO2.out⟩
end Go.Proofs.YtcppbdlmcbjmeaaGreatDoor
