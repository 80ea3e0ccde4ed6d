/- Lemmas that the law needs, part 22. -/
import Derived.Test.YtcppbdlmcbjmeaaGreatDoorK14
import Derived.Test.YtcppbdlmcbjmeaaGreatDoorK20
set_option maxHeartbeats 12800000
set_option maxRecDepth 100000
namespace Go.Proofs.YtcppbdlmcbjmeaaGreatDoor
open Go.RowKit
theorem zFm {c:Cod} {F:List Nat} {w:World} {kb sb mb n f wide:Nat} {S X:Nat→Value} {ds:List DoneP} {r:List Ask} {z q G Dn:Nat→Int} {shape kz:Int} {R:Nat→Nat→Prop} {U:List Nat} {v:Value} {B:Nat→Nat→Int×Int} (list:Nat) (hl:list<2) (hc:c.Ok)
 (h:Scene c F w w kb sb mb (zV S z) X n (zG ds) F (ZI B list Dn G (ZD shape) 0++r)) (hB:∀ k first,B k first=byN ds f wide n (zFX shape G k) shape list k first (G (7*first+(1+list))))
 (hs:0≤shape∧shape≤3) (hG:zHc shape G) (hz:MotZ c.wr shape G R kz z) (hR0:∀ u,R u 0) (hR1:∀ u,R u (1+list))
 (hU:UnitsIn w U v (ZD shape)) (hUd:∀ i∈U,i≠sb∧i≠mb∧i∉F) (h0:S 0=.int .i64 f) (h21:S 21=.int .i64 wide) (bf:f≤1000000) (bwd:1≤wide∧wide≤1000000) (bn:n≤1000000) (hds:ds.length=n) (hX1:X 1=.int .i64 shape)
 (hq:∀ p,p<4→q (7*p)=Dn p) (hqw:c.wr=true→∀ p j,p<4→j<7→Dn p≠3→q (7*p+j)=G (7*p+j)) (hqb:∀ i,i<28→-1000≤q i∧q i≤1000) (hDn:∀ p,p<4→Dn p≠3→Dn p=G (7*p))
 (hrg:∀ p,p<4→Zv list (Dn p)=true→(-256≤G (7*p+(3+2*list))∧G (7*p+(3+2*list))≤256)∧-256≤G (7*p+(4+2*list))∧G (7*p+(4+2*list))≤256)
 (hBr:∀ k first,first<4→Zv list (Dn first)=true→(-1000≤(B k first).1∧(B k first).1≤1000)∧-1000≤(B k first).2∧(B k first).2≤1000)
 (hRn:∀ p,p<4→Zv list (Dn p)=false→R (Zg shape p) (3+2*list)∧R (Zg shape p) (4+2*list)):
 Calls Tryz.prog 108 #[.pointer (some ⟨kb,0,none⟩),v,.agg (fnA 28 (fun i=> .int .i64 (q i))),.int .i64 list] w fun e w'=>e=.returned (.tuple #[])∧∃ (F':List Nat) (z':Nat→Int) (kz':Int),Scene c F w w' kb sb mb (zV S z') X n (zG ds) F' r∧MotZ c.wr shape G (fun u j=>R u j∨j=3+2*list∨j=4+2*list) kz' z':=by
 obtain ⟨g,hgU,rfl,hrow⟩:=hU.sl;have mE:=hc.mE;have eE:=hc.eE;have HC:=zh hc;have HG:=zh hG;have HR0:=zh hR0;have HU:=zh hU;have HUd:=zh hUd;have Hq:=zh hq;have Hqw:=zh hqw;have HDn:=zh hDn;have Hrg:=zh hrg;have HRn:=zh hRn;have HR1:=zh hR1;have HqB:=zh hqb;have HBr:=zh hBr;have HB:=zh hB;have H0:=zh h0;have H21:=zh h21;have Hbd:=zh (And.intro bf (And.intro bwd bn));have Hds:=zh hds;have HX1:=zh hX1;have hli:(list:Int)<2:=by omega
 have Hrow:=zh hrow;have HgU:=zh hgU;obtain ⟨w1,hw1⟩:∃ w1,w1=w.alloc (.cells (fnA 28 (fun i=> .int .i64 (q i))) 46):=⟨_,rfl⟩;have o1:Only [] w w1:=by rw [hw1];exact (Only.refl _ w).alloc _
 have hb1:BlkIn w1 w.heap.size 28 46 (fun i=> .int .i64 (q i)):=by rw [hw1];exact ZA w _
 have hs1:=h.same hc o1;have hbF:w.heap.size∉F:=fun hm=>by have:=hc.low F _ _ h.c _ hm;omega
 have hbn:w.heap.size≠kb∧w.heap.size≠sb∧w.heap.size≠mb:=by
  have:=h.l;omega
 obtain ⟨bw,hbw⟩:∃ b,b=w.heap.size:=⟨_,rfl⟩;rw [←hbw] at hb1 hbF hbn;have Hs1:=zh hs1;have HO1:=zh o1;have HB1:=zh hb1;have HbF:=zh hbF;have Hbn:=zh hbn;have hU1:=hU.only o1 (fun _ _=>by simp);have HU1:=zh hU1;have hlen:(ZD shape).length≤4:=zBD shape;obtain ⟨LL,hLL⟩:∃ l,l=(ZD shape).length:=⟨_,rfl⟩;rw [←hLL] at hlen;have HLL:=zh hLL;have HS:=zh hs;have HZ:=zh hz;rw [←hLL];clear h hG hz hR0 hU hUd hq hqw hDn hrg hRn hrow hgU o1 hb1 hs1 hbF hbn hU1 hLL hs hc hR1 hqb hBr hB h0 h21 bf bwd bn hds hX1
 go_enter Tryz.func108,Tryz.ntmps108
 go_wp2_with fail
 rw [←hw1,←hbw];clear hw1 hbw;have Hs2:Hid (Scene c F w1 w1 kb sb mb (zV S z) X n (zG ds) F (ZI B list Dn G (ZD shape) 0++r)):=zh Hs1.out.here
 go_wp2_with fail
 go_loopw [18] (fun s wx=>∃ (i:Nat) (F1:List Nat) (z1:Nat→Int) (k1:Int),i≤LL∧s=.int .i64 (i:Int)∧Hid (Scene c F w1 wx kb sb mb (zV S z1) X n (zG ds) F1 (ZI B list Dn G ((ZD shape).drop i) i++r)∧MotZ c.wr shape G (fun u j=>R u j∨(u<i∧(j=3+2*list∨j=4+2*list))) k1 z1)) (fun s _=>(LL-intOf s).toNat)
 case atStart=>exact ⟨0,F,z,kz,Nat.zero_le _,rfl,zh ⟨Hs2.out,HZ.out.mono (fun u j _ h=>h.elim id (fun h=>absurd h.1 (by omega))) HS.out⟩⟩
 case round=>
  obtain ⟨i,F1,z1,k1,hi,rfl,Hx⟩:=hrel
  by_cases hlt:i<LL
  ·obtain ⟨u,hu⟩:∃ u,(ZD shape)[i]? =some u:=⟨_,List.getElem?_eq_getElem (by rw [←HLL.out];exact hlt)⟩;obtain ⟨hd,tl,hut,hd4,hhd,hum⟩:=ZY HS.out i u hu;have hui:Zg shape hd=i:=((hum hd hd4).1).1 (hut▸List.mem_cons_self);have huL:u.length≤4:=(zO shape u (List.mem_of_getElem? hu)).1;have hup:∀ p∈u,p<4:=(zO shape u (List.mem_of_getElem? hu)).2.2;have hdrop:(ZD shape).drop i=u::(ZD shape).drop (i+1):=by
    rw [List.drop_eq_getElem_cons (by rw [←HLL.out];exact hlt)];rw [List.getElem?_eq_getElem (by rw [←HLL.out];exact hlt)] at hu;rw [Option.some.inj hu]
   have hh0:hd0 u=hd:=by rw [hut];rfl
   obtain ⟨b,hbU,hc1,hc2⟩:=Hrow.out i u hu;have hx:=Hx.out.1;have oB:∀ j∈U,j∉sb::mb::F:=fun j hj e=>by
    have h9:=HUd.out j hj;simp only [List.mem_cons] at e
    rcases e with e|e|e
    ·exact h9.1 e
    ·exact h9.2.1 e
    ·exact h9.2.2 e
   have c1:=hx.o.cell (HO1.out.cell hc1 (by simp)) (oB g HgU.out);have hC2:∀ wx,Only (sb::mb::F) w1 wx→∀ (j p:Nat),u[j]? =some p→wx.cell? ⟨b,j,none⟩=some (.int .i64 p):=fun wx ho j p hj=>ho.cell (HO1.out.cell (hc2 j p hj) (by simp)) (oB b hbU)
   have HC2:=zh hC2;have c20:=hC2 wr hx.o 0 hd (by rw [hut];rfl);have Hut0:Hid (u[0]? =some hd):=zh (by rw [hut];rfl);have hbsb:b≠sb:=(HUd.out b hbU).1;have hBX:∀ wx,Only (sb::mb::F) w1 wx→BlkIn wx bw 28 46 (fun i=> .int .i64 (q i)):=fun wx ho=>ho.heap HB1.out (by
    simp only [List.mem_cons,not_or];exact ⟨Hbn.out.2.1,Hbn.out.2.2,HbF.out⟩)
   have HBX:=zh hBX;have Hhup:=zh hup;have Hhdrop:=zh hdrop;have Hu:=zh hu;have Hut:=zh hut;have Hui:=zh hui;have Hh0:=zh hh0;obtain ⟨m,hm⟩:∃ m,m=u.length:=⟨_,rfl⟩;have h1m:1≤m:=by rw [hm,hut];simp
   rw [←hm] at huL c1;have Hm:=zh hm;have h0m:0<m:=h1m;have k0:=hx.k0;have hd4i:(hd:Int)<4:=by omega
   have c70:wr.cell? ⟨sb,70,none⟩=some (.int .i64 (z1 46)):=by rw [hx.s.cell 70 (by decide),show (70:Nat)=24+46 from rfl,zB4]
   have f70:=hx.s.free 70;clear hx hum hup hdrop hu hut hc1 hc2 hC2 oB hui hh0 hhd hm hBX;obtain ⟨wu,hwu⟩:∃ wu,wu=wr.setCell ⟨sb,70,none⟩ (.int .i64 i):=⟨_,rfl⟩;obtain ⟨z2,hz2⟩:∃ z2,z2=zHa 46 1 (fun _=>(i:Int)) z1:=⟨_,rfl⟩;have hx:Scene c F w1 wu kb sb mb (zV S z2) X n (zG ds) F1 (ZI B list Dn G ((ZD shape).drop i) i++r):=by
    rw [hwu,hz2,←zJf];exact Hx.out.1.setS HC.out 70 _ (by decide)
   have Hmz:Hid (MotZ c.wr shape G (fun u j=>R u j∨(u<i∧(j=3+2*list∨j=4+2*list))) (i:Int) z2):=zh (by rw [hz2];exact Hx.out.2.at i);obtain ⟨p,hp⟩:∃ p:Nat→Int,p=fun j=>z2 (18+(7*hd+j)):=⟨_,rfl⟩
   obtain ⟨ZL,hZL⟩:∃ l,l=(List.range 7).map (fun j=>Value.int .i64 (p j)):=⟨_,rfl⟩;have hzr:wu.rangeAt sb (42+hd*7) ZL:=by
    rw [hZL,hp];exact zAN (o:=42+hd*7) (len:=7) hx.s (fun j=>z2 (18+(7*hd+j))) (fun j hj=>by rw [show 42+hd*7+j=24+(18+(7*hd+j)) by omega];exact zB4 S z2 _) (by omega)
   have hZ7:ZL.length=7:=by rw [hZL];simp
   have hI7:(Tryz.prog.info? 45).map (·.size)=some ZL.length:=by rw [hZ7];kernel_rfl
   have HZ7:=zh hZ7;have HI7:=zh hI7;have HZL:=zh hZL;have Hp:=zh hp;have hlow:∀ i∈F1,i<wu.heap.size:=HC.out.low F1 _ _ hx.c;have hpsz:wu.heap.size≠sb∧wu.heap.size≠mb∧wu.heap.size≠kb∧wu.heap.size≠b∧wu.heap.size≠bw:=by
    have h9:=hx.l;have h10:=hx.o.size;have h11:=(HBX.out wu hx.o).lt;have h12:=HU1.out.lt b hbU;omega
   have Hpsz:=zh hpsz;have Hloc:Hid (∀ x,wu.heap.size≤x→x≠kb∧x≠sb∧x≠mb∧x∉F1∧(zV S z2 23).ownBlock≠some x∧w1.heap.size≤x):=zh (fun x hxx=>by
    have h9:=hx.l;have h10:=hx.o.size;exact ⟨by omega,by omega,by omega,fun h=>by have:=hlow _ h;omega,fun h=>by have:=(hx.ag h).2.2.2;omega,by omega⟩)
   have hA:(wu.drew.alloc (.cells #[.int .i64 0,.int .i64 0,.int .i64 0,.int .i64 0,.int .i64 0,.int .i64 0,.int .i64 0] 45)).heap[wu.heap.size]? =some (.cells #[.int .i64 0,.int .i64 0,.int .i64 0,.int .i64 0,.int .i64 0,.int .i64 0,.int .i64 0] 45 (0,0)):=ZA wu.drew _;have HA:=zh hA;have c20:=HC2.out wu hx.o 0 hd Hut0.out;have k0':=hx.k0;have Hsu:=zh hx
   go_upto_region 5 with fail
   rw [←hwu];clear hwu hz2 hx hp hZL hlow hpsz hA Hx c1 k0 c70 f70 hZ7 hI7;refine zH (by kernel_rfl) (fun w':World=>w'.cell? ⟨kb,0,none⟩=some (.pointer (some ⟨sb,0,none⟩))∧w'.cell? ⟨b,0,none⟩=some (.int .i64 hd)∧w'.rangeAt sb (42+hd*7) ZL) 13 ?_;have hS0:(fun w':World=>w'.cell? ⟨kb,0,none⟩=some (.pointer (some ⟨sb,0,none⟩))∧w'.cell? ⟨b,0,none⟩=some (.int .i64 hd)∧w'.rangeAt sb (42+hd*7) ZL) wu.drew:=⟨k0',c20,hzr⟩;refine AnyL.tk 0 (h:=?_);refine AnyL.tk 1 (h:=?_);refine AnyL.tk 2 (h:=?_);refine AnyL.tk 3 (h:=?_);refine AnyL.tk 4 (h:=?_);refine AnyL.tk 5 (h:=?_);refine AnyL.tk 6 (h:=?_);refine AnyL.tk 7 (h:=?_);refine AnyL.tk 8 (h:=?_);refine AnyL.tk 9 (h:=?_);refine AnyL.tk 10 (h:=?_);refine AnyL.tl 11 rfl (yieldsIf_load_mid (by rfl) _ _ rfl sb (42+hd*7) rfl ZL _ (fun w' h=>h.2.2) Tryz.underlying45 rfl HI7.out) ?_
   refine AnyL.on 12 (h:=fun K hK=>?_);go_simp;have hS1:(fun w':World=>w'.cell? ⟨kb,0,none⟩=some (.pointer (some ⟨sb,0,none⟩))∧w'.cell? ⟨b,0,none⟩=some (.int .i64 hd)∧w'.rangeAt sb (42+hd*7) ZL) (wu.drew.alloc (.cells #[.int .i64 0,.int .i64 0,.int .i64 0,.int .i64 0,.int .i64 0,.int .i64 0,.int .i64 0] 45)):=⟨(Only.refl [] _).alloc _ |>.cell hS0.1 (by simp),(Only.refl [] _).alloc _ |>.cell hS0.2.1 (by simp),fun j v hj=>(Only.refl [] _).alloc _ |>.cell (hS0.2.2 j v hj) (by simp)⟩;refine hK _ _ (fun _=>hS1) (fun hKq=>?_);clear hK K hKq
   try simp only [zpt]
   refine AnyL.on 13 (h:=fun K hK=>?_);rw [if_pos (by rfl)];refine ZG _ _ _ rfl wu.heap.size ZL rfl rfl HA.out HI7.out HZ7.out (by rw [HZL.out];intro v hv;obtain ⟨j,-,rfl⟩:=List.mem_map.1 hv;rfl) fun w5 h5 o5=>?_
   refine hK _ _ (fun h=>absurd rfl h) (fun hKq=>?_);clear hK K hKq
   try simp only [Act.put]
   refine AnyL.dn (h:=?_);have oP:Only [] wu w5:=(((Only.refl [] wu).drew).alloc _).trans' o5 (fun i hi=> .inr (by simp at hi;omega));have hsc:=Hsu.out.same HC.out oP;have Hsc:=zh hsc;have OP:=zh oP;have cD:w5.cell? ⟨bw,hd*7,none⟩=some (.int .i64 (Dn hd)):=by rw [(HBX.out w5 hsc.o).cell (hd*7) (by omega),Nat.mul_comm,Hq.out hd hd4]
   have c20:=HC2.out w5 hsc.o 0 hd Hut0.out;have HP:Hid (BlkIn w5 wu.heap.size 7 45 (fun j=> .int .i64 (p j))):=zh (by rw [HZL.out] at h5;exact h5);obtain ⟨Z0,hZ0⟩:∃ x,x=p 0:=⟨_,rfl⟩;have g0:w5.cell? ⟨wu.heap.size,0,none⟩=some (.int .i64 Z0):=by rw [HP.out.cell 0 (by decide),hZ0]
   have HZ0:=zh hZ0;have hk0:=hsc.k0;clear hS0 hS1 k0' h5 o5 oP hsc hzr HA hZ0;have hskip:Zv list (Dn hd)=false→Hid (Scene c F w1 w5 kb sb mb (zV S z2) X n (zG ds) F1 (ZI B list Dn G ((ZD shape).drop (i+1)) (i+1)++r)∧MotZ c.wr shape G (fun u j=>R u j∨(u<i+1∧(j=3+2*list∨j=4+2*list))) (i:Int) z2):=fun hh=>by
    have e:ZI B list Dn G ((ZD shape).drop i) i=ZI B list Dn G ((ZD shape).drop (i+1)) (i+1):=by
     rw [Hhdrop.out]
     show (if _ then _ else [])++_=_
     rw [Hh0.out,if_neg (by rw [hh];simp)]
     rfl
    have h9:=Hsc.out;rw [e] at h9;refine zh ⟨h9,Hmz.out.skip HS.out (fun j hj=>?_)⟩;have h8:=HRn.out hd hd4 hh;rw [Hui.out] at h8
    rcases hj with hj|hj
    ·rw [hj];exact h8.1
    ·rw [hj];exact h8.2
   have Hskip:=zh hskip;clear hskip
   by_cases hD:Dn hd=3
   ·rw [hD] at cD
    go_wp2_with fail
    exact ⟨⟨i+1,F1,z2,i,by omega,rfl,Hskip.out (by rw [hD];unfold Zv;simp;omega)⟩,by simp [intOf];omega⟩
   ·have bD:decide (Dn hd=3)=false:=decide_eq_false hD;have hZD:Z0=Dn hd:=by
     rw [HZ0.out,Hp.out]
     show z2 (18+(7*hd+0))=_
     rw [Hmz.out.got hd 0 hd4 (by decide) (.inl (HR0.out _)),Nat.add_zero];exact (HDn.out hd hd4 hD).symm
    have HZD:=zh hZD;clear hZD
    go_wp2_with fail
    refine (zBQ _ _).mono ?_;rintro e w6 ⟨rfl,o6⟩;obtain ⟨B0,hB0⟩:∃ b,b=Zv 0 Z0:=⟨_,rfl⟩;obtain ⟨B1,hB1⟩:∃ b,b=Zv 1 Z0:=⟨_,rfl⟩;obtain ⟨BL,hBL⟩:∃ b,b=Zv list Z0:=⟨_,rfl⟩;rw [←hB0,←hB1];have ix:∀ w,(Instr.index 177 (.agg #[.bool B0,.bool B1]) (.int .i64 list)).run Tryz.prog w=.ok (.bool BL) w:=by
     rw [hBL];obtain rfl|rfl:list=0∨list=1:=by omega
     ·rw [←hB0];exact fun _=>by kernel_rfl
     ·rw [←hB1];exact fun _=>by kernel_rfl
    have HBL:=zh hBL;clear hB0 hB1 hBL;have Hs6:=zh (Hsc.out.same HC.out o6);have Hp6:=zh (HP.out.only o6 (by simp));clear g0 hk0 cD c20
    cases BL with
    |false=>
     go_wp2_with fail
     have h9:=Hskip.out (by rw [←HZD.out];exact HBL.out.symm);exact ⟨⟨i+1,F1,z2,i,by omega,rfl,zh ⟨h9.out.1.same HC.out o6,h9.out.2⟩⟩,by simp [intOf];omega⟩
    |true=>
     have hhas:Zv list (Dn hd)=true:=by rw [←HZD.out];exact HBL.out.symm
     have hr:=Hrg.out hd hd4 hhas;have Hhas:=zh hhas;clear Hskip Hsc;have hmot:MotIn w6 sb (zV S z2) f wide n ds z2:=⟨Hs6.out.st (by rw [zI _ _ (by decide)];exact H0.out) (by rw [zI _ _ (by decide)];exact H21.out) Hbd.out.1 Hbd.out.2.1 Hbd.out.2.2,Hds.out,fun i _=>zB4 S z2 i⟩;have hwd:(((zCz shape).toNat:Nat):Int)=zCz shape:=by unfold zCz;split<;>rfl
     have hwd2:(zCz shape).toNat≤2:=by unfold zCz;split<;>decide
     have hal:=(Hmz.out.alike hl (fun u hu=>⟨.inl (HR0.out u),.inl (HR1.out u),.inr ⟨hu,.inl rfl⟩,.inr ⟨hu,.inr rfl⟩⟩)).nb ds f wide n hd (zCz shape).toNat;have hBy:=HB.out i hd;unfold byN at hBy;dsimp only at hBy;have hneigh:∀ wx,Only [] w6 wx→Calls Tryz.prog 138 #[.pointer (some ⟨sb,0,none⟩),.int .i64 hd,.int .i64 (zCz shape),.int .i64 list] wx fun e w'=>e=.returned (.tuple #[zGV (nbA ds f wide n (zFX shape G i) list hd) (nbB ds f wide n (zFX shape G i) list hd) (nbC ds f wide n (zFX shape G i) list hd (zCz shape).toNat),zLH (nbA ds f wide n (zFX shape G i) list hd) (nbB ds f wide n (zFX shape G i) list hd) (nbC ds f wide n (zFX shape G i) list hd (zCz shape).toNat)])∧Only [] wx w':=fun wx ho=>by
      rw [←hal.1,←hal.2.1,←hal.2.2,←hwd];exact zEX (hmot.same ho) list hl hd _ hd4 hwd2
     obtain ⟨ta,hta⟩:∃ t,t=nbA ds f wide n (zFX shape G i) list hd:=⟨_,rfl⟩;obtain ⟨tb,htb⟩:∃ t,t=nbB ds f wide n (zFX shape G i) list hd:=⟨_,rfl⟩;obtain ⟨tc,htc⟩:∃ t,t=nbC ds f wide n (zFX shape G i) list hd (zCz shape).toNat:=⟨_,rfl⟩;rw [←hta,←htb,←htc] at hneigh hBy;clear hta htb htc hal hmot hwd hwd2;obtain ⟨ra,xa,ya⟩:=ta;obtain ⟨rb,xb,yb⟩:=tb;obtain ⟨rc,xc,yc⟩:=tc;unfold zGV zLH at hneigh;dsimp only at hneigh hBy;have HN:=zh hneigh;have HBy:=zh hBy
     have hS7:∀ wx,Only [] w6 wx→wx.cell? ⟨kb,0,none⟩=some (.pointer (some ⟨sb,0,none⟩))∧wx.cell? ⟨kb,2,none⟩=some (.pointer (some ⟨mb,0,none⟩))∧wx.cell? ⟨b,0,none⟩=some (.int .i64 hd)∧wx.cell? ⟨mb,1,none⟩=some (.int .i64 shape):=fun wx ho=>⟨ho.cell Hs6.out.k0 (by simp),ho.cell Hs6.out.k2 (by simp),ho.cell (HC2.out w6 Hs6.out.o 0 hd Hut0.out) (by simp),ho.cell (by rw [Hs6.out.m.cell 1 (by decide),HX1.out]) (by simp)⟩
     have HS7:=zh hS7;have hs70:=hS7 w6 (Only.refl _ _);have T0:Two w6 188 238 #[.int .i64 0,.int .i64 0,.int .i64 0] #[.int .i64 0,.int .i64 0,.int .i64 0,.int .i64 0,.int .i64 0,.int .i64 0] none none w6.drew:=⟨(Only.refl _ w6).drew,fun p h=>(by cases h),fun p h=>(by cases h)⟩;clear hneigh hBy hS7
     go_upto_region 7 with fail
     go_cut [11,12] (fun s11 s12 wx=>∃ p11 p12,s11=.pointer (some ⟨p11,0,none⟩)∧s12=.pointer (some ⟨p12,0,none⟩)∧wx.heap[p11]? =some (.cells #[.int .i64 ra,.int .i64 rb,.int .i64 rc] 188 (0,0))∧wx.heap[p12]? =some (.cells #[.int .i64 xa,.int .i64 ya,.int .i64 xb,.int .i64 yb,.int .i64 xc,.int .i64 yc] 238 (0,0))∧Only [] w6 wx)
     case first=>
      refine zH (by kernel_rfl) (fun w':World=>w'.cell? ⟨kb,0,none⟩=some (.pointer (some ⟨sb,0,none⟩))∧w'.cell? ⟨kb,2,none⟩=some (.pointer (some ⟨mb,0,none⟩))∧w'.cell? ⟨b,0,none⟩=some (.int .i64 hd)∧w'.cell? ⟨mb,1,none⟩=some (.int .i64 shape)) 23 ?_;have hS0:(fun w':World=>w'.cell? ⟨kb,0,none⟩=some (.pointer (some ⟨sb,0,none⟩))∧w'.cell? ⟨kb,2,none⟩=some (.pointer (some ⟨mb,0,none⟩))∧w'.cell? ⟨b,0,none⟩=some (.int .i64 hd)∧w'.cell? ⟨mb,1,none⟩=some (.int .i64 shape)) w6.drew:=HS7.out _ T0.o;refine AnyL.tk 0 (h:=?_);refine AnyL.tk 1 (h:=?_);refine AnyL.tk 2 (h:=?_);refine AnyL.tk 3 (h:=?_);refine AnyL.tk 4 (h:=?_);refine AnyL.tk 5 (h:=?_);refine AnyL.tk 6 (h:=?_);refine AnyL.tk 7 (h:=?_);refine AnyL.tk 8 (h:=?_);refine AnyL.tk 9 (h:=?_);refine AnyL.tk 10 (h:=?_);refine AnyL.tk 11 (h:=?_);refine AnyL.tk 12 (h:=?_)
      refine AnyL.tk 13 (h:=?_);refine AnyL.tk 15 (h:=?_);refine AnyL.three 14 20 21 (by kernel_rfl) (AnyL.op 14 rfl (fun K hK=>?_)) (AnyL.op 20 rfl (fun K hK=>?_)) (AnyL.op 21 rfl (fun K hK=>?_))
      ·go_simp;refine (zEk shape _).mono ?_;rintro e wq ⟨rfl,rfl⟩;refine hK _ _ (fun _=>HS7.out _ T0.o) (fun hKq=>?_);clear hK K hKq
       try simp only [zpt]
       refine AnyL.three 16 20 21 (by kernel_rfl) (AnyL.op 16 rfl (fun K hK=>?_)) (AnyL.op 20 rfl (fun K hK=>?_)) (AnyL.op 21 rfl (fun K hK=>?_))
       ·go_simp;refine (HN.out _ T0.o).mono ?_;rintro e wN ⟨rfl,oN⟩;have T2:=T0.call oN;refine hK _ _ (fun _=>HS7.out _ T2.o) (fun hKq=>?_);clear hK K hKq
        try simp only [zpt]
        have hSx:=HS7.out _ T2.o;refine AnyL.tk 17 (h:=?_);refine AnyL.tk 18 (h:=?_);refine AnyL.tk 19 (h:=?_);clear hSx;refine AnyL.two 20 21 (by kernel_rfl) (AnyL.op 20 rfl (fun K hK=>?_)) (AnyL.op 21 rfl (fun K hK=>?_))
        ·go_simp;have T3:=T2.a1 (wN.heap.size) (by simp);refine hK _ _ (fun _=>HS7.out _ T3.o) (fun hKq=>?_);clear hK K hKq
         try simp only [zpt]
         refine AnyL.on 21 (h:=fun K hK=>?_);go_simp;have T4:=T3.a2 (wN.heap.size+1) (by simp);refine hK _ _ (fun _=>HS7.out _ T4.o) (fun hKq=>?_);clear hK K hKq
         try simp only [zpt]
         refine AnyL.on 22 (h:=fun K hK=>?_);rw [if_pos (by rfl)];refine ZG _ _ _ rfl _ [.int .i64 ra,.int .i64 rb,.int .i64 rc] rfl rfl (T4.b1 _ rfl).1 (by kernel_rfl) rfl (by simp [Value.oneCell']) fun wA hA oA=>?_
         have oA2:=T4.o.trans' oA (fun i hi=> .inr (by rw [List.mem_singleton.1 hi];exact (T4.b1 _ rfl).2));refine hK _ _ (fun _=>HS7.out _ oA2) (fun hKq=>?_);clear hK K hKq
         try simp only [Act.put]
         refine AnyL.on 23 (h:=fun K hK=>?_);rw [if_pos (by rfl)];refine ZG _ _ _ rfl _ [.int .i64 xa,.int .i64 ya,.int .i64 xb,.int .i64 yb,.int .i64 xc,.int .i64 yc] rfl rfl (oA.heap (T4.b2 _ rfl).1 (fun h=>T4.ne (by decide) (List.mem_singleton.1 h).symm)) (by kernel_rfl) rfl (by simp [Value.oneCell']) fun wB hB oB=>?_
         refine hK _ _ (fun h=>absurd rfl h) (fun hKq=>?_);clear hK K hKq
         try simp only [Act.put]
         refine AnyL.dn (h:=?_)
         go_wp2_with fail
         go_meet;exact ⟨_,_,rfl,rfl,oB.heap hA (fun h=>T4.ne (by decide) (List.mem_singleton.1 h)),hB,oA2.trans' oB (fun i hi=> .inr (by rw [List.mem_singleton.1 hi];exact (T4.b2 _ rfl).2))⟩
        ·go_simp;have T3:=T2.a2 (wN.heap.size) (by simp);refine hK _ _ (fun _=>HS7.out _ T3.o) (fun hKq=>?_);clear hK K hKq
         try simp only [zpt]
         refine AnyL.on 20 (h:=fun K hK=>?_);go_simp;have T4:=T3.a1 (wN.heap.size+1) (by simp);refine hK _ _ (fun _=>HS7.out _ T4.o) (fun hKq=>?_);clear hK K hKq
         try simp only [zpt]
         refine AnyL.on 22 (h:=fun K hK=>?_);rw [if_pos (by rfl)];refine ZG _ _ _ rfl _ [.int .i64 ra,.int .i64 rb,.int .i64 rc] rfl rfl (T4.b1 _ rfl).1 (by kernel_rfl) rfl (by simp [Value.oneCell']) fun wA hA oA=>?_
         have oA2:=T4.o.trans' oA (fun i hi=> .inr (by rw [List.mem_singleton.1 hi];exact (T4.b1 _ rfl).2));refine hK _ _ (fun _=>HS7.out _ oA2) (fun hKq=>?_);clear hK K hKq
         try simp only [Act.put]
         refine AnyL.on 23 (h:=fun K hK=>?_);rw [if_pos (by rfl)];refine ZG _ _ _ rfl _ [.int .i64 xa,.int .i64 ya,.int .i64 xb,.int .i64 yb,.int .i64 xc,.int .i64 yc] rfl rfl (oA.heap (T4.b2 _ rfl).1 (fun h=>T4.ne (by decide) (List.mem_singleton.1 h).symm)) (by kernel_rfl) rfl (by simp [Value.oneCell']) fun wB hB oB=>?_
         refine hK _ _ (fun h=>absurd rfl h) (fun hKq=>?_);clear hK K hKq
         try simp only [Act.put]
         refine AnyL.dn (h:=?_)
         go_wp2_with fail
         go_meet;exact ⟨_,_,rfl,rfl,oB.heap hA (fun h=>T4.ne (by decide) (List.mem_singleton.1 h)),hB,oA2.trans' oB (fun i hi=> .inr (by rw [List.mem_singleton.1 hi];exact (T4.b2 _ rfl).2))⟩
       ·go_simp;have T2:=T0.a1 (w6.heap.size) (by simp);refine hK _ _ (fun _=>HS7.out _ T2.o) (fun hKq=>?_);clear hK K hKq
        try simp only [zpt]
        refine AnyL.two 16 21 (by kernel_rfl) (AnyL.op 16 rfl (fun K hK=>?_)) (AnyL.op 21 rfl (fun K hK=>?_))
        ·go_simp;refine (HN.out _ T2.o).mono ?_;rintro e wN ⟨rfl,oN⟩;have T3:=T2.call oN;refine hK _ _ (fun _=>HS7.out _ T3.o) (fun hKq=>?_);clear hK K hKq
         try simp only [zpt]
         have hSx:=HS7.out _ T3.o;refine AnyL.tk 17 (h:=?_);refine AnyL.tk 18 (h:=?_);refine AnyL.tk 19 (h:=?_);clear hSx;refine AnyL.on 21 (h:=fun K hK=>?_);go_simp;have T4:=T3.a2 (wN.heap.size) (by simp);refine hK _ _ (fun _=>HS7.out _ T4.o) (fun hKq=>?_);clear hK K hKq
         try simp only [zpt]
         refine AnyL.on 22 (h:=fun K hK=>?_);rw [if_pos (by rfl)];refine ZG _ _ _ rfl _ [.int .i64 ra,.int .i64 rb,.int .i64 rc] rfl rfl (T4.b1 _ rfl).1 (by kernel_rfl) rfl (by simp [Value.oneCell']) fun wA hA oA=>?_
         have oA2:=T4.o.trans' oA (fun i hi=> .inr (by rw [List.mem_singleton.1 hi];exact (T4.b1 _ rfl).2));refine hK _ _ (fun _=>HS7.out _ oA2) (fun hKq=>?_);clear hK K hKq
         try simp only [Act.put]
         refine AnyL.on 23 (h:=fun K hK=>?_);rw [if_pos (by rfl)];refine ZG _ _ _ rfl _ [.int .i64 xa,.int .i64 ya,.int .i64 xb,.int .i64 yb,.int .i64 xc,.int .i64 yc] rfl rfl (oA.heap (T4.b2 _ rfl).1 (fun h=>T4.ne (by decide) (List.mem_singleton.1 h).symm)) (by kernel_rfl) rfl (by simp [Value.oneCell']) fun wB hB oB=>?_
         refine hK _ _ (fun h=>absurd rfl h) (fun hKq=>?_);clear hK K hKq
         try simp only [Act.put]
         refine AnyL.dn (h:=?_)
         go_wp2_with fail
         go_meet;exact ⟨_,_,rfl,rfl,oB.heap hA (fun h=>T4.ne (by decide) (List.mem_singleton.1 h)),hB,oA2.trans' oB (fun i hi=> .inr (by rw [List.mem_singleton.1 hi];exact (T4.b2 _ rfl).2))⟩
        ·go_simp;have T3:=T2.a2 (w6.heap.size+1) (by simp);refine hK _ _ (fun _=>HS7.out _ T3.o) (fun hKq=>?_);clear hK K hKq
         try simp only [zpt]
         refine AnyL.on 16 (h:=fun K hK=>?_);go_simp;refine (HN.out _ T3.o).mono ?_;rintro e wN ⟨rfl,oN⟩;have T4:=T3.call oN;refine hK _ _ (fun _=>HS7.out _ T4.o) (fun hKq=>?_);clear hK K hKq
         try simp only [zpt]
         have hSx:=HS7.out _ T4.o;refine AnyL.tk 17 (h:=?_);refine AnyL.tk 18 (h:=?_);refine AnyL.tk 19 (h:=?_);clear hSx;refine AnyL.on 22 (h:=fun K hK=>?_);rw [if_pos (by rfl)];refine ZG _ _ _ rfl _ [.int .i64 ra,.int .i64 rb,.int .i64 rc] rfl rfl (T4.b1 _ rfl).1 (by kernel_rfl) rfl (by simp [Value.oneCell']) fun wA hA oA=>?_
         have oA2:=T4.o.trans' oA (fun i hi=> .inr (by rw [List.mem_singleton.1 hi];exact (T4.b1 _ rfl).2));refine hK _ _ (fun _=>HS7.out _ oA2) (fun hKq=>?_);clear hK K hKq
         try simp only [Act.put]
         refine AnyL.on 23 (h:=fun K hK=>?_);rw [if_pos (by rfl)];refine ZG _ _ _ rfl _ [.int .i64 xa,.int .i64 ya,.int .i64 xb,.int .i64 yb,.int .i64 xc,.int .i64 yc] rfl rfl (oA.heap (T4.b2 _ rfl).1 (fun h=>T4.ne (by decide) (List.mem_singleton.1 h).symm)) (by kernel_rfl) rfl (by simp [Value.oneCell']) fun wB hB oB=>?_
         refine hK _ _ (fun h=>absurd rfl h) (fun hKq=>?_);clear hK K hKq
         try simp only [Act.put]
         refine AnyL.dn (h:=?_)
         go_wp2_with fail
         go_meet;exact ⟨_,_,rfl,rfl,oB.heap hA (fun h=>T4.ne (by decide) (List.mem_singleton.1 h)),hB,oA2.trans' oB (fun i hi=> .inr (by rw [List.mem_singleton.1 hi];exact (T4.b2 _ rfl).2))⟩
       ·go_simp;have T2:=T0.a2 (w6.heap.size) (by simp);refine hK _ _ (fun _=>HS7.out _ T2.o) (fun hKq=>?_);clear hK K hKq
        try simp only [zpt]
        refine AnyL.two 16 20 (by kernel_rfl) (AnyL.op 16 rfl (fun K hK=>?_)) (AnyL.op 20 rfl (fun K hK=>?_))
        ·go_simp;refine (HN.out _ T2.o).mono ?_;rintro e wN ⟨rfl,oN⟩;have T3:=T2.call oN;refine hK _ _ (fun _=>HS7.out _ T3.o) (fun hKq=>?_);clear hK K hKq
         try simp only [zpt]
         have hSx:=HS7.out _ T3.o;refine AnyL.tk 17 (h:=?_);refine AnyL.tk 18 (h:=?_);refine AnyL.tk 19 (h:=?_);clear hSx;refine AnyL.on 20 (h:=fun K hK=>?_);go_simp;have T4:=T3.a1 (wN.heap.size) (by simp);refine hK _ _ (fun _=>HS7.out _ T4.o) (fun hKq=>?_);clear hK K hKq
         try simp only [zpt]
         refine AnyL.on 22 (h:=fun K hK=>?_);rw [if_pos (by rfl)];refine ZG _ _ _ rfl _ [.int .i64 ra,.int .i64 rb,.int .i64 rc] rfl rfl (T4.b1 _ rfl).1 (by kernel_rfl) rfl (by simp [Value.oneCell']) fun wA hA oA=>?_
         have oA2:=T4.o.trans' oA (fun i hi=> .inr (by rw [List.mem_singleton.1 hi];exact (T4.b1 _ rfl).2));refine hK _ _ (fun _=>HS7.out _ oA2) (fun hKq=>?_);clear hK K hKq
         try simp only [Act.put]
         refine AnyL.on 23 (h:=fun K hK=>?_);rw [if_pos (by rfl)];refine ZG _ _ _ rfl _ [.int .i64 xa,.int .i64 ya,.int .i64 xb,.int .i64 yb,.int .i64 xc,.int .i64 yc] rfl rfl (oA.heap (T4.b2 _ rfl).1 (fun h=>T4.ne (by decide) (List.mem_singleton.1 h).symm)) (by kernel_rfl) rfl (by simp [Value.oneCell']) fun wB hB oB=>?_
         refine hK _ _ (fun h=>absurd rfl h) (fun hKq=>?_);clear hK K hKq
         try simp only [Act.put]
         refine AnyL.dn (h:=?_)
         go_wp2_with fail
         go_meet;exact ⟨_,_,rfl,rfl,oB.heap hA (fun h=>T4.ne (by decide) (List.mem_singleton.1 h)),hB,oA2.trans' oB (fun i hi=> .inr (by rw [List.mem_singleton.1 hi];exact (T4.b2 _ rfl).2))⟩
        ·go_simp;have T3:=T2.a1 (w6.heap.size+1) (by simp);refine hK _ _ (fun _=>HS7.out _ T3.o) (fun hKq=>?_);clear hK K hKq
         try simp only [zpt]
         refine AnyL.on 16 (h:=fun K hK=>?_);go_simp;refine (HN.out _ T3.o).mono ?_;rintro e wN ⟨rfl,oN⟩;have T4:=T3.call oN;refine hK _ _ (fun _=>HS7.out _ T4.o) (fun hKq=>?_);clear hK K hKq
         try simp only [zpt]
         have hSx:=HS7.out _ T4.o;refine AnyL.tk 17 (h:=?_);refine AnyL.tk 18 (h:=?_);refine AnyL.tk 19 (h:=?_);clear hSx;refine AnyL.on 22 (h:=fun K hK=>?_);rw [if_pos (by rfl)];refine ZG _ _ _ rfl _ [.int .i64 ra,.int .i64 rb,.int .i64 rc] rfl rfl (T4.b1 _ rfl).1 (by kernel_rfl) rfl (by simp [Value.oneCell']) fun wA hA oA=>?_
         have oA2:=T4.o.trans' oA (fun i hi=> .inr (by rw [List.mem_singleton.1 hi];exact (T4.b1 _ rfl).2));refine hK _ _ (fun _=>HS7.out _ oA2) (fun hKq=>?_);clear hK K hKq
         try simp only [Act.put]
         refine AnyL.on 23 (h:=fun K hK=>?_);rw [if_pos (by rfl)];refine ZG _ _ _ rfl _ [.int .i64 xa,.int .i64 ya,.int .i64 xb,.int .i64 yb,.int .i64 xc,.int .i64 yc] rfl rfl (oA.heap (T4.b2 _ rfl).1 (fun h=>T4.ne (by decide) (List.mem_singleton.1 h).symm)) (by kernel_rfl) rfl (by simp [Value.oneCell']) fun wB hB oB=>?_
         refine hK _ _ (fun h=>absurd rfl h) (fun hKq=>?_);clear hK K hKq
         try simp only [Act.put]
         refine AnyL.dn (h:=?_)
         go_wp2_with fail
         go_meet;exact ⟨_,_,rfl,rfl,oB.heap hA (fun h=>T4.ne (by decide) (List.mem_singleton.1 h)),hB,oA2.trans' oB (fun i hi=> .inr (by rw [List.mem_singleton.1 hi];exact (T4.b2 _ rfl).2))⟩
      ·go_simp;have T1:=T0.a1 (w6.heap.size) (by simp);refine hK _ _ (fun _=>HS7.out _ T1.o) (fun hKq=>?_);clear hK K hKq
       try simp only [zpt]
       refine AnyL.two 14 21 (by kernel_rfl) (AnyL.op 14 rfl (fun K hK=>?_)) (AnyL.op 21 rfl (fun K hK=>?_))
       ·go_simp;refine (zEk shape _).mono ?_;rintro e wq ⟨rfl,rfl⟩;refine hK _ _ (fun _=>HS7.out _ T1.o) (fun hKq=>?_);clear hK K hKq
        try simp only [zpt]
        refine AnyL.two 16 21 (by kernel_rfl) (AnyL.op 16 rfl (fun K hK=>?_)) (AnyL.op 21 rfl (fun K hK=>?_))
        ·go_simp;refine (HN.out _ T1.o).mono ?_;rintro e wN ⟨rfl,oN⟩;have T3:=T1.call oN;refine hK _ _ (fun _=>HS7.out _ T3.o) (fun hKq=>?_);clear hK K hKq
         try simp only [zpt]
         have hSx:=HS7.out _ T3.o;refine AnyL.tk 17 (h:=?_);refine AnyL.tk 18 (h:=?_);refine AnyL.tk 19 (h:=?_);clear hSx;refine AnyL.on 21 (h:=fun K hK=>?_);go_simp;have T4:=T3.a2 (wN.heap.size) (by simp);refine hK _ _ (fun _=>HS7.out _ T4.o) (fun hKq=>?_);clear hK K hKq
         try simp only [zpt]
         refine AnyL.on 22 (h:=fun K hK=>?_);rw [if_pos (by rfl)];refine ZG _ _ _ rfl _ [.int .i64 ra,.int .i64 rb,.int .i64 rc] rfl rfl (T4.b1 _ rfl).1 (by kernel_rfl) rfl (by simp [Value.oneCell']) fun wA hA oA=>?_
         have oA2:=T4.o.trans' oA (fun i hi=> .inr (by rw [List.mem_singleton.1 hi];exact (T4.b1 _ rfl).2));refine hK _ _ (fun _=>HS7.out _ oA2) (fun hKq=>?_);clear hK K hKq
         try simp only [Act.put]
         refine AnyL.on 23 (h:=fun K hK=>?_);rw [if_pos (by rfl)];refine ZG _ _ _ rfl _ [.int .i64 xa,.int .i64 ya,.int .i64 xb,.int .i64 yb,.int .i64 xc,.int .i64 yc] rfl rfl (oA.heap (T4.b2 _ rfl).1 (fun h=>T4.ne (by decide) (List.mem_singleton.1 h).symm)) (by kernel_rfl) rfl (by simp [Value.oneCell']) fun wB hB oB=>?_
         refine hK _ _ (fun h=>absurd rfl h) (fun hKq=>?_);clear hK K hKq
         try simp only [Act.put]
         refine AnyL.dn (h:=?_)
         go_wp2_with fail
         go_meet;exact ⟨_,_,rfl,rfl,oB.heap hA (fun h=>T4.ne (by decide) (List.mem_singleton.1 h)),hB,oA2.trans' oB (fun i hi=> .inr (by rw [List.mem_singleton.1 hi];exact (T4.b2 _ rfl).2))⟩
        ·go_simp;have T3:=T1.a2 (w6.heap.size+1) (by simp);refine hK _ _ (fun _=>HS7.out _ T3.o) (fun hKq=>?_);clear hK K hKq
         try simp only [zpt]
         refine AnyL.on 16 (h:=fun K hK=>?_);go_simp;refine (HN.out _ T3.o).mono ?_;rintro e wN ⟨rfl,oN⟩;have T4:=T3.call oN;refine hK _ _ (fun _=>HS7.out _ T4.o) (fun hKq=>?_);clear hK K hKq
         try simp only [zpt]
         have hSx:=HS7.out _ T4.o;refine AnyL.tk 17 (h:=?_);refine AnyL.tk 18 (h:=?_);refine AnyL.tk 19 (h:=?_);clear hSx;refine AnyL.on 22 (h:=fun K hK=>?_);rw [if_pos (by rfl)];refine ZG _ _ _ rfl _ [.int .i64 ra,.int .i64 rb,.int .i64 rc] rfl rfl (T4.b1 _ rfl).1 (by kernel_rfl) rfl (by simp [Value.oneCell']) fun wA hA oA=>?_
         have oA2:=T4.o.trans' oA (fun i hi=> .inr (by rw [List.mem_singleton.1 hi];exact (T4.b1 _ rfl).2));refine hK _ _ (fun _=>HS7.out _ oA2) (fun hKq=>?_);clear hK K hKq
         try simp only [Act.put]
         refine AnyL.on 23 (h:=fun K hK=>?_);rw [if_pos (by rfl)];refine ZG _ _ _ rfl _ [.int .i64 xa,.int .i64 ya,.int .i64 xb,.int .i64 yb,.int .i64 xc,.int .i64 yc] rfl rfl (oA.heap (T4.b2 _ rfl).1 (fun h=>T4.ne (by decide) (List.mem_singleton.1 h).symm)) (by kernel_rfl) rfl (by simp [Value.oneCell']) fun wB hB oB=>?_
         refine hK _ _ (fun h=>absurd rfl h) (fun hKq=>?_);clear hK K hKq
         try simp only [Act.put]
         refine AnyL.dn (h:=?_)
         go_wp2_with fail
         go_meet;exact ⟨_,_,rfl,rfl,oB.heap hA (fun h=>T4.ne (by decide) (List.mem_singleton.1 h)),hB,oA2.trans' oB (fun i hi=> .inr (by rw [List.mem_singleton.1 hi];exact (T4.b2 _ rfl).2))⟩
       ·go_simp;have T2:=T1.a2 (w6.heap.size+1) (by simp);refine hK _ _ (fun _=>HS7.out _ T2.o) (fun hKq=>?_);clear hK K hKq
        try simp only [zpt]
        refine AnyL.on 14 (h:=fun K hK=>?_);go_simp;refine (zEk shape _).mono ?_;rintro e wq ⟨rfl,rfl⟩;refine hK _ _ (fun _=>HS7.out _ T2.o) (fun hKq=>?_);clear hK K hKq
        try simp only [zpt]
        refine AnyL.on 16 (h:=fun K hK=>?_);go_simp;refine (HN.out _ T2.o).mono ?_;rintro e wN ⟨rfl,oN⟩;have T4:=T2.call oN;refine hK _ _ (fun _=>HS7.out _ T4.o) (fun hKq=>?_);clear hK K hKq
        try simp only [zpt]
        have hSx:=HS7.out _ T4.o;refine AnyL.tk 17 (h:=?_);refine AnyL.tk 18 (h:=?_);refine AnyL.tk 19 (h:=?_);clear hSx;refine AnyL.on 22 (h:=fun K hK=>?_);rw [if_pos (by rfl)];refine ZG _ _ _ rfl _ [.int .i64 ra,.int .i64 rb,.int .i64 rc] rfl rfl (T4.b1 _ rfl).1 (by kernel_rfl) rfl (by simp [Value.oneCell']) fun wA hA oA=>?_
        have oA2:=T4.o.trans' oA (fun i hi=> .inr (by rw [List.mem_singleton.1 hi];exact (T4.b1 _ rfl).2));refine hK _ _ (fun _=>HS7.out _ oA2) (fun hKq=>?_);clear hK K hKq
        try simp only [Act.put]
        refine AnyL.on 23 (h:=fun K hK=>?_);rw [if_pos (by rfl)];refine ZG _ _ _ rfl _ [.int .i64 xa,.int .i64 ya,.int .i64 xb,.int .i64 yb,.int .i64 xc,.int .i64 yc] rfl rfl (oA.heap (T4.b2 _ rfl).1 (fun h=>T4.ne (by decide) (List.mem_singleton.1 h).symm)) (by kernel_rfl) rfl (by simp [Value.oneCell']) fun wB hB oB=>?_
        refine hK _ _ (fun h=>absurd rfl h) (fun hKq=>?_);clear hK K hKq
        try simp only [Act.put]
        refine AnyL.dn (h:=?_)
        go_wp2_with fail
        go_meet;exact ⟨_,_,rfl,rfl,oB.heap hA (fun h=>T4.ne (by decide) (List.mem_singleton.1 h)),hB,oA2.trans' oB (fun i hi=> .inr (by rw [List.mem_singleton.1 hi];exact (T4.b2 _ rfl).2))⟩
      ·go_simp;have T1:=T0.a2 (w6.heap.size) (by simp);refine hK _ _ (fun _=>HS7.out _ T1.o) (fun hKq=>?_);clear hK K hKq
       try simp only [zpt]
       refine AnyL.two 14 20 (by kernel_rfl) (AnyL.op 14 rfl (fun K hK=>?_)) (AnyL.op 20 rfl (fun K hK=>?_))
       ·go_simp;refine (zEk shape _).mono ?_;rintro e wq ⟨rfl,rfl⟩;refine hK _ _ (fun _=>HS7.out _ T1.o) (fun hKq=>?_);clear hK K hKq
        try simp only [zpt]
        refine AnyL.two 16 20 (by kernel_rfl) (AnyL.op 16 rfl (fun K hK=>?_)) (AnyL.op 20 rfl (fun K hK=>?_))
        ·go_simp;refine (HN.out _ T1.o).mono ?_;rintro e wN ⟨rfl,oN⟩;have T3:=T1.call oN;refine hK _ _ (fun _=>HS7.out _ T3.o) (fun hKq=>?_);clear hK K hKq
         try simp only [zpt]
         have hSx:=HS7.out _ T3.o;refine AnyL.tk 17 (h:=?_);refine AnyL.tk 18 (h:=?_);refine AnyL.tk 19 (h:=?_);clear hSx;refine AnyL.on 20 (h:=fun K hK=>?_);go_simp;have T4:=T3.a1 (wN.heap.size) (by simp);refine hK _ _ (fun _=>HS7.out _ T4.o) (fun hKq=>?_);clear hK K hKq
         try simp only [zpt]
         refine AnyL.on 22 (h:=fun K hK=>?_);rw [if_pos (by rfl)];refine ZG _ _ _ rfl _ [.int .i64 ra,.int .i64 rb,.int .i64 rc] rfl rfl (T4.b1 _ rfl).1 (by kernel_rfl) rfl (by simp [Value.oneCell']) fun wA hA oA=>?_
         have oA2:=T4.o.trans' oA (fun i hi=> .inr (by rw [List.mem_singleton.1 hi];exact (T4.b1 _ rfl).2));refine hK _ _ (fun _=>HS7.out _ oA2) (fun hKq=>?_);clear hK K hKq
         try simp only [Act.put]
         refine AnyL.on 23 (h:=fun K hK=>?_);rw [if_pos (by rfl)];refine ZG _ _ _ rfl _ [.int .i64 xa,.int .i64 ya,.int .i64 xb,.int .i64 yb,.int .i64 xc,.int .i64 yc] rfl rfl (oA.heap (T4.b2 _ rfl).1 (fun h=>T4.ne (by decide) (List.mem_singleton.1 h).symm)) (by kernel_rfl) rfl (by simp [Value.oneCell']) fun wB hB oB=>?_
         refine hK _ _ (fun h=>absurd rfl h) (fun hKq=>?_);clear hK K hKq
         try simp only [Act.put]
         refine AnyL.dn (h:=?_)
         go_wp2_with fail
         go_meet;exact ⟨_,_,rfl,rfl,oB.heap hA (fun h=>T4.ne (by decide) (List.mem_singleton.1 h)),hB,oA2.trans' oB (fun i hi=> .inr (by rw [List.mem_singleton.1 hi];exact (T4.b2 _ rfl).2))⟩
        ·go_simp;have T3:=T1.a1 (w6.heap.size+1) (by simp);refine hK _ _ (fun _=>HS7.out _ T3.o) (fun hKq=>?_);clear hK K hKq
         try simp only [zpt]
         refine AnyL.on 16 (h:=fun K hK=>?_);go_simp;refine (HN.out _ T3.o).mono ?_;rintro e wN ⟨rfl,oN⟩;have T4:=T3.call oN;refine hK _ _ (fun _=>HS7.out _ T4.o) (fun hKq=>?_);clear hK K hKq
         try simp only [zpt]
         have hSx:=HS7.out _ T4.o;refine AnyL.tk 17 (h:=?_);refine AnyL.tk 18 (h:=?_);refine AnyL.tk 19 (h:=?_);clear hSx;refine AnyL.on 22 (h:=fun K hK=>?_);rw [if_pos (by rfl)];refine ZG _ _ _ rfl _ [.int .i64 ra,.int .i64 rb,.int .i64 rc] rfl rfl (T4.b1 _ rfl).1 (by kernel_rfl) rfl (by simp [Value.oneCell']) fun wA hA oA=>?_
         have oA2:=T4.o.trans' oA (fun i hi=> .inr (by rw [List.mem_singleton.1 hi];exact (T4.b1 _ rfl).2));refine hK _ _ (fun _=>HS7.out _ oA2) (fun hKq=>?_);clear hK K hKq
         try simp only [Act.put]
         refine AnyL.on 23 (h:=fun K hK=>?_);rw [if_pos (by rfl)];refine ZG _ _ _ rfl _ [.int .i64 xa,.int .i64 ya,.int .i64 xb,.int .i64 yb,.int .i64 xc,.int .i64 yc] rfl rfl (oA.heap (T4.b2 _ rfl).1 (fun h=>T4.ne (by decide) (List.mem_singleton.1 h).symm)) (by kernel_rfl) rfl (by simp [Value.oneCell']) fun wB hB oB=>?_
         refine hK _ _ (fun h=>absurd rfl h) (fun hKq=>?_);clear hK K hKq
         try simp only [Act.put]
         refine AnyL.dn (h:=?_)
         go_wp2_with fail
         go_meet;exact ⟨_,_,rfl,rfl,oB.heap hA (fun h=>T4.ne (by decide) (List.mem_singleton.1 h)),hB,oA2.trans' oB (fun i hi=> .inr (by rw [List.mem_singleton.1 hi];exact (T4.b2 _ rfl).2))⟩
       ·go_simp;have T2:=T1.a1 (w6.heap.size+1) (by simp);refine hK _ _ (fun _=>HS7.out _ T2.o) (fun hKq=>?_);clear hK K hKq
        try simp only [zpt]
        refine AnyL.on 14 (h:=fun K hK=>?_);go_simp;refine (zEk shape _).mono ?_;rintro e wq ⟨rfl,rfl⟩;refine hK _ _ (fun _=>HS7.out _ T2.o) (fun hKq=>?_);clear hK K hKq
        try simp only [zpt]
        refine AnyL.on 16 (h:=fun K hK=>?_);go_simp;refine (HN.out _ T2.o).mono ?_;rintro e wN ⟨rfl,oN⟩;have T4:=T2.call oN;refine hK _ _ (fun _=>HS7.out _ T4.o) (fun hKq=>?_);clear hK K hKq
        try simp only [zpt]
        have hSx:=HS7.out _ T4.o;refine AnyL.tk 17 (h:=?_);refine AnyL.tk 18 (h:=?_);refine AnyL.tk 19 (h:=?_);clear hSx;refine AnyL.on 22 (h:=fun K hK=>?_);rw [if_pos (by rfl)];refine ZG _ _ _ rfl _ [.int .i64 ra,.int .i64 rb,.int .i64 rc] rfl rfl (T4.b1 _ rfl).1 (by kernel_rfl) rfl (by simp [Value.oneCell']) fun wA hA oA=>?_
        have oA2:=T4.o.trans' oA (fun i hi=> .inr (by rw [List.mem_singleton.1 hi];exact (T4.b1 _ rfl).2));refine hK _ _ (fun _=>HS7.out _ oA2) (fun hKq=>?_);clear hK K hKq
        try simp only [Act.put]
        refine AnyL.on 23 (h:=fun K hK=>?_);rw [if_pos (by rfl)];refine ZG _ _ _ rfl _ [.int .i64 xa,.int .i64 ya,.int .i64 xb,.int .i64 yb,.int .i64 xc,.int .i64 yc] rfl rfl (oA.heap (T4.b2 _ rfl).1 (fun h=>T4.ne (by decide) (List.mem_singleton.1 h).symm)) (by kernel_rfl) rfl (by simp [Value.oneCell']) fun wB hB oB=>?_
        refine hK _ _ (fun h=>absurd rfl h) (fun hKq=>?_);clear hK K hKq
        try simp only [Act.put]
        refine AnyL.dn (h:=?_)
        go_wp2_with fail
        go_meet;exact ⟨_,_,rfl,rfl,oB.heap hA (fun h=>T4.ne (by decide) (List.mem_singleton.1 h)),hB,oA2.trans' oB (fun i hi=> .inr (by rw [List.mem_singleton.1 hi];exact (T4.b2 _ rfl).2))⟩
     case rest=>
      obtain ⟨p11,p12,rfl,rfl,h11,h12,oc⟩:=hcut;have hsc:=Hs6.out.same HC.out oc;have Hsc:=zh hsc;have HPc:=zh (Hp6.out.only oc (by simp));have H11:=zh h11;have H12:=zh h12;have k2:=hsc.k2;have e1:wc.cell? ⟨mb,1,none⟩=some (.int .i64 shape):=by rw [hsc.m.cell 1 (by decide),HX1.out]
      have hszc:wu.heap.size<wc.heap.size:=HPc.out.lt;clear hs70 T0 Hs6 Hp6 hsc h11 h12 oc ix HS7 HN;obtain ⟨sh,hsh⟩:∃ s,s=if shape=3 then 0 else shape:=⟨_,rfl⟩;rw [←hsh] at HBy;have Hsh:=zh hsh;clear hsh
      go_upto_if 85 with fail
      go_cut [13] (fun s13 wx=>s13=.int .i64 sh∧Hid (wc=wx))
      case first=>
       by_cases h3:shape=3
       ·have b3:decide (shape=3)=true:=decide_eq_true h3
        go_wp2_with fail
        go_meet;exact ⟨by rw [Hsh.out,if_pos h3],zh rfl⟩
       ·have b3:decide (shape=3)=false:=decide_eq_false h3
        go_wp2_with fail
        go_meet;exact ⟨by rw [Hsh.out,if_neg h3],zh rfl⟩
      case rest=>
       obtain ⟨rfl,hwc⟩:=hcut;obtain rfl:=hwc.out;have hpr:p (1+list)=G (7*hd+(1+list)):=by rw [Hp.out];exact Hmz.out.got hd (1+list) hd4 (by omega) (.inl (HR1.out _))
       obtain ⟨⟨bx,bY⟩,hb⟩:∃ t,t=B i hd:=⟨_,rfl⟩;have Hb:=zh hb;have HBx:Hid (zBN ra rb rc xa xb xc (G (7*hd+(1+list))) (zBM sh i)=bx∧zBN ra rb rc ya yb yc (G (7*hd+(1+list))) (zBM sh i)=bY):=zh (by
        have h9:=HBy.out;rw [←hb] at h9;have h8:=Prod.mk.inj h9;exact ⟨h8.1.symm,h8.2.symm⟩)
       have Hpart:Hid (sh=1∨sh=2→(i:Int)=0∨(i:Int)=1):=zh (fun h=>by
        have h9:LL≤2:=by
         rw [HLL.out];have h8:=Hsh.out
         rcases h with h|h
         ·obtain rfl:shape=1:=by split at h8<;>omega
          decide
         ·obtain rfl:shape=2:=by split at h8<;>omega
          decide
        omega)
       have hS11:(fun w':World=>w'.rangeAt p11 0 [.int .i64 ra,.int .i64 rb,.int .i64 rc]∧w'.rangeAt p12 0 [.int .i64 xa,.int .i64 ya,.int .i64 xb,.int .i64 yb,.int .i64 xc,.int .i64 yc]∧w'.cell? ⟨wu.heap.size,1+list,none⟩=some (.int .i64 (G (7*hd+(1+list))))) wc.drew:=⟨zAA H11.out,zAA H12.out,by
        show wc.cell? ⟨wu.heap.size,1+list,none⟩=_
        rw [HPc.out.cell (1+list) (by omega),hpr]⟩
       have HS11:Hid (∀ wx,Only [] wc wx→(fun w':World=>w'.rangeAt p11 0 [.int .i64 ra,.int .i64 rb,.int .i64 rc]∧w'.rangeAt p12 0 [.int .i64 xa,.int .i64 ya,.int .i64 xb,.int .i64 yb,.int .i64 xc,.int .i64 yc]∧w'.cell? ⟨wu.heap.size,1+list,none⟩=some (.int .i64 (G (7*hd+(1+list))))) wx):=zh (fun wx ho=>⟨zAA (ho.heap H11.out (by simp)),zAA (ho.heap H12.out (by simp)),ho.cell hS11.2.2 (by simp)⟩);have T0:Two wc 42 42 #[.int .i64 0,.int .i64 0] #[] none none wc.drew:=⟨(Only.refl _ wc).drew,fun p h=>(by cases h),fun p h=>(by cases h)⟩;clear k2 e1 hwc hb hpr
       go_upto_region 11 with fail
       go_cut [14] (fun s14 wx=>∃ p14,s14=.pointer (some ⟨p14,0,none⟩)∧wx.heap[p14]? =some (.cells #[.int .i64 bx,.int .i64 bY] 42 (0,0))∧Only [] wc wx∧wc.heap.size≤p14)
       case first=>
        refine zH (by kernel_rfl) (fun w':World=>w'.rangeAt p11 0 [.int .i64 ra,.int .i64 rb,.int .i64 rc]∧w'.rangeAt p12 0 [.int .i64 xa,.int .i64 ya,.int .i64 xb,.int .i64 yb,.int .i64 xc,.int .i64 yc]∧w'.cell? ⟨wu.heap.size,1+list,none⟩=some (.int .i64 (G (7*hd+(1+list))))) 10 ?_;have hS0:=hS11;refine AnyL.tl 0 rfl (yieldsIf_load_mid (by rfl) _ _ rfl p11 0 rfl [.int .i64 ra,.int .i64 rb,.int .i64 rc] _ (fun w' h=>h.1) Tryz.underlying188 rfl (by kernel_rfl)) ?_;refine AnyL.tl 1 rfl (yieldsIf_load_mid (by rfl) _ _ rfl p12 0 rfl [.int .i64 xa,.int .i64 ya,.int .i64 xb,.int .i64 yb,.int .i64 xc,.int .i64 yc] _ (fun w' h=>h.2.1) Tryz.underlying238 rfl (by kernel_rfl)) ?_;refine AnyL.tk 2 (h:=?_);refine AnyL.tk 3 (h:=?_);refine AnyL.tk 4 (h:=?_);refine AnyL.tk 5 (h:=?_);refine AnyL.tk 6 (h:=?_);refine AnyL.tk 7 (h:=?_)
        refine AnyL.two 8 9 (by kernel_rfl) (AnyL.op 8 rfl (fun K hK=>?_)) (AnyL.op 9 rfl (fun K hK=>?_))
        ·go_simp;refine (zBq Hpart.out).mono ?_;rintro e wN ⟨rfl,oN⟩;rw [HBx.out.1,HBx.out.2];have T1:=T0.call oN;refine hK _ _ (fun _=>HS11.out _ T1.o) (fun hKq=>?_);clear hK K hKq
         try simp only [zpt]
         refine AnyL.on 9 (h:=fun K hK=>?_);go_simp;have T2:=T1.a1 (wN.heap.size) (by simp);refine hK _ _ (fun _=>HS11.out _ T2.o) (fun hKq=>?_);clear hK K hKq
         try simp only [zpt]
         refine AnyL.on 10 (h:=fun K hK=>?_);rw [if_pos (by rfl)];refine ZG _ _ _ rfl _ [.int .i64 bx,.int .i64 bY] rfl rfl (T2.b1 _ rfl).1 (by kernel_rfl) rfl (by simp [Value.oneCell']) fun wA hA oA=>?_
         refine hK _ _ (fun h=>absurd rfl h) (fun hKq=>?_);clear hK K hKq
         try simp only [Act.put]
         refine AnyL.dn (h:=?_)
         go_wp2_with fail
         go_meet;exact ⟨_,rfl,hA,T2.o.trans' oA (fun i hi=> .inr (by rw [List.mem_singleton.1 hi];exact (T2.b1 _ rfl).2)),(T2.b1 _ rfl).2⟩
        ·go_simp;have T1:=T0.a1 (wc.heap.size) (by simp);refine hK _ _ (fun _=>HS11.out _ T1.o) (fun hKq=>?_);clear hK K hKq
         try simp only [zpt]
         refine AnyL.on 8 (h:=fun K hK=>?_);go_simp;refine (zBq Hpart.out).mono ?_;rintro e wN ⟨rfl,oN⟩;rw [HBx.out.1,HBx.out.2];have T2:=T1.call oN;refine hK _ _ (fun _=>HS11.out _ T2.o) (fun hKq=>?_);clear hK K hKq
         try simp only [zpt]
         refine AnyL.on 10 (h:=fun K hK=>?_);rw [if_pos (by rfl)];refine ZG _ _ _ rfl _ [.int .i64 bx,.int .i64 bY] rfl rfl (T2.b1 _ rfl).1 (by kernel_rfl) rfl (by simp [Value.oneCell']) fun wA hA oA=>?_
         refine hK _ _ (fun h=>absurd rfl h) (fun hKq=>?_);clear hK K hKq
         try simp only [Act.put]
         refine AnyL.dn (h:=?_)
         go_wp2_with fail
         go_meet;exact ⟨_,rfl,hA,T2.o.trans' oA (fun i hi=> .inr (by rw [List.mem_singleton.1 hi];exact (T2.b1 _ rfl).2)),(T2.b1 _ rfl).2⟩
       case rest=>
        obtain ⟨p14,rfl,h14,od,hp14⟩:=hcut;have hsd:=Hsc.out.same HC.out od;have hqd:=HBX.out wc hsd.o;have hpp:wu.heap.size<p14:=by omega
        have Hsd:=zh hsd;have HPd:=zh (HPc.out.only od (by simp));have H14:=zh h14;obtain ⟨vx,hvx⟩:∃ x,x=q (7*hd+(3+2*list)):=⟨_,rfl⟩;obtain ⟨vy,hvy⟩:∃ x,x=q (7*hd+(4+2*list)):=⟨_,rfl⟩;have cx:wc.cell? ⟨bw,hd*7+3+list*2,none⟩=some (.int .i64 vx):=by rw [hqd.cell _ (by omega),hvx,show hd*7+3+list*2=7*hd+(3+2*list) by omega]
        have cy:wc.cell? ⟨bw,hd*7+3+list*2+1,none⟩=some (.int .i64 vy):=by rw [hqd.cell _ (by omega),hvy,show hd*7+3+list*2+1=7*hd+(4+2*list) by omega]
        have c20:=HC2.out wc hsd.o 0 hd Hut0.out;have h14z:p14<wc.heap.size:=lt_of_block h14;have Hvx:=zh hvx;have Hvy:=zh hvy;clear hsd hqd h14 od hp14 hvx hvy hszc Hsc HPc H11 H12 hS11 HS11 T0 HBy;obtain ⟨w9,hw9⟩:∃ w9,w9=wc.alloc (.cells #[.int .i64 vx,.int .i64 vy] 42):=⟨_,rfl⟩;obtain ⟨p15,hp15⟩:∃ p,p=wc.heap.size:=⟨_,rfl⟩;have o9:Only [] wc w9:=by rw [hw9];exact (Only.refl _ _).alloc _
        have H15a:Hid (w9.heap[p15]? =some (.cells #[.int .i64 vx,.int .i64 vy] 42 (0,0))):=zh (by rw [hw9,hp15];exact ZA wc _);have H14a:=zh (o9.heap H14.out (by simp));have HPa:=zh (HPd.out.only o9 (by simp));obtain ⟨gx,hgx⟩:∃ x,x=G (7*hd+(3+2*list)):=⟨_,rfl⟩;obtain ⟨gy,hgy⟩:∃ x,x=G (7*hd+(4+2*list)):=⟨_,rfl⟩;have Hsa:Hid (Scene c F w1 w9 kb sb mb (zV S z2) X n (zG ds) F1 (.elem 9 0 (gx-bx) 0::(.elem 10 0 (gy-bY) 0::(ZI B list Dn G ((ZD shape).drop (i+1)) (i+1)++r)))):=zh (by
         have e:ZI B list Dn G ((ZD shape).drop i) i=[.elem 9 0 (gx-bx) 0,.elem 10 0 (gy-bY) 0]++ZI B list Dn G ((ZD shape).drop (i+1)) (i+1):=by
          rw [Hhdrop.out]
          show (if _ then _ else [])++_=_
          rw [Hh0.out,if_pos Hhas.out,←Hb.out,hgx,hgy]
         have h9:=Hsd.out.same HC.out o9;rw [e] at h9;exact h9)
        have hrgd:=Hrg.out hd hd4 Hhas.out;have hbr:=HBr.out i hd hd4 Hhas.out;rw [←Hb.out] at hbr;rw [←hgx,←hgy] at hrgd;dsimp only at hbr;have hqx:=HqB.out (7*hd+(3+2*list)) (by omega);have hqy:=HqB.out (7*hd+(4+2*list)) (by omega);rw [←Hvx.out] at hqx;rw [←Hvy.out] at hqy;have qx1:IntKind.i64.wrap (vx-bx)=vx-bx:=sw _ (by omega) (by omega);have qx2:IntKind.i64.wrap (bx+(gx-bx))=gx:=by rw [sw _ (by omega) (by omega)];omega
        have qy1:IntKind.i64.wrap (vy-bY)=vy-bY:=sw _ (by omega) (by omega);have qy2:IntKind.i64.wrap (bY+(gy-bY))=gy:=by rw [sw _ (by omega) (by omega)];omega
        have Hin:Hid ((-256≤gx∧gx≤256)∧-256≤gy∧gy≤256):=zh hrgd;have hp15p:wu.heap.size<p15∧p14≠p15∧wu.heap.size<p14:=by omega
        have HFa:Hid (∀ x,x=p14∨x=p15∨x=wu.heap.size→x∉F1):=zh (fun x hx=>(Hloc.out x (by omega)).2.2.2.1);have Hgx:=zh hgx;have Hgy:=zh hgy;have Hqx:Hid (c.wr=true→vx-bx=gx-bx):=zh (fun hwr=>by rw [Hvx.out,Hgx.out,Hqw.out hwr hd (3+2*list) hd4 (by omega) hD]);have Hqy:Hid (c.wr=true→vy-bY=gy-bY):=zh (fun hwr=>by rw [Hvy.out,Hgy.out,Hqw.out hwr hd (4+2*list) hd4 (by omega) hD])
        go_upto_region 13 with fail
        rw [←hw9,←hp15];clear hw9 hp15 o9 cx cy c20 hgx hgy hrgd hbr hqx hqy Hsd HPd H14 hpp h14z;have hzW:p14<w9.heap.size∧p15<w9.heap.size∧wu.heap.size<w9.heap.size:=⟨lt_of_block H14a.out,lt_of_block H15a.out,HPa.out.lt⟩;have hSa:(fun w':World=>w'.cell? ⟨kb,1,none⟩=some (.iface c.T c.pv)∧w'.cell? ⟨p14,0,none⟩=some (.int .i64 bx)∧w'.cell? ⟨p15,0,none⟩=some (.int .i64 vx)) w9.drew:=⟨Hsa.out.k1,zA H14a.out 0,zA H15a.out 0⟩;refine zH (by kernel_rfl) (fun w':World=>w'.cell? ⟨kb,1,none⟩=some (.iface c.T c.pv)∧w'.cell? ⟨p14,0,none⟩=some (.int .i64 bx)∧w'.cell? ⟨p15,0,none⟩=some (.int .i64 vx)) 14 ?_;have hS0:=hSa;refine AnyL.tk 0 (h:=?_);refine AnyL.tk 1 (h:=?_);refine AnyL.tk 2 (h:=?_);refine AnyL.tk 3 (h:=?_);refine AnyL.tk 4 (h:=?_);refine AnyL.tk 5 (h:=?_);refine AnyL.tk 6 (h:=?_);refine AnyL.tk 7 (h:=?_);refine AnyL.tk 8 (h:=?_)
        refine AnyL.tk 9 (h:=?_);refine AnyL.tk 10 (h:=?_);refine AnyL.on 11 (h:=fun K hK=>?_);go_simp;refine ((Hsa.out.drew HC.out).here.elem HC.out (vx-bx) Hqx.out).mono ?_;rintro e wA ⟨rfl,F2,g8⟩;have hs8:=(Hsa.out.drew HC.out).trans g8;have hni:∀ x,x=p14∨x=p15∨x=wu.heap.size→x∉sb::mb::F1:=fun x hx h=>by
         have h9:=Hloc.out x (by omega);simp only [List.mem_cons] at h
         rcases h with h|h|h
         ·exact h9.2.1 h
         ·exact h9.2.2.1 h
         ·exact HFa.out x hx h
        have h14':=g8.o.heap (show w9.drew.heap[p14]? =_ from H14a.out) (hni _ (.inl rfl));have h15':=g8.o.heap (show w9.drew.heap[p15]? =_ from H15a.out) (hni _ (.inr (.inl rfl)));have hP':BlkIn wA wu.heap.size 7 45 _:=g8.o.heap (show w9.drew.heap[wu.heap.size]? =_ from HPa.out) (hni _ (.inr (.inr rfl)));have HF8:Hid (∀ x,x=p14∨x=p15∨x=wu.heap.size→x∉F2):=zh (fun x hx h=>(g8.n x h).elim (fun h=>hni x hx (by simp [h])) (fun h=>by
         have h7:w9.drew.heap.size=w9.heap.size:=rfl;omega))
        have hSb:(fun w':World=>w'.cell? ⟨kb,1,none⟩=some (.iface c.T c.pv)∧w'.cell? ⟨p14,0,none⟩=some (.int .i64 bx)∧w'.cell? ⟨p15,0,none⟩=some (.int .i64 vx)) wA:=⟨hs8.k1,zA h14' 0,zA h15' 0⟩;have g1:=zA h15' 0;have f1:=ZB h15' 0;have Hs8:=zh hs8;have H148:=zh h14';have H158:=zh h15';have HP8:=zh hP';clear hs8 h14' h15' hP' hni g8;refine hK _ _ (fun _=>hSb) (fun hKq=>?_);clear hK K hKq
        try simp only [zpt]
        refine AnyL.on 12 (h:=fun K hK=>?_);go_simp;refine hK _ _ (fun _=>hSb) (fun hKq=>?_);clear hK K hKq
        try simp only [zpt]
        refine AnyL.on 13 (h:=fun K hK=>?_);go_simp;refine hK _ _ (fun _=>hSb) (fun hKq=>?_);clear hK K hKq
        try simp only [zpt]
        refine AnyL.on 14 (h:=fun K hK=>?_);go_simp;refine hK _ _ (fun h=>absurd rfl h) (fun hKq=>?_);clear hK K hKq
        try simp only [zpt]
        refine AnyL.dn (h:=?_);obtain ⟨wB,hwB⟩:∃ x,x=wA.setCell ⟨p15,0,none⟩ (.int .i64 gx):=⟨_,rfl⟩;rw [←hwB];have Hsb:=zh (show Scene c F w1 wB kb sb mb (zV S z2) X n (zG ds) F2 _ by
         rw [hwB];exact Hs8.out.only (Y:=[p15]) HC.out ((Only.refl _ _).setCell (.inl (by simp)) _) (by
          simp only [List.mem_singleton,forall_eq];have h9:=Hloc.out p15 (by omega);exact ⟨h9.1,h9.2.1,h9.2.2.1,HF8.out p15 (.inr (.inl rfl)),h9.2.2.2.2.1,h9.2.2.2.2.2⟩))
        have H14b:Hid (wB.heap[p14]? =some (.cells #[.int .i64 bx,.int .i64 bY] 42 (0,0))):=zh (by rw [hwB];exact zC _ H148.out hp15p.2.1);have H15b:Hid (wB.heap[p15]? =some (.cells #[.int .i64 gx,.int .i64 vy] 42 (0,0))):=zh (by rw [hwB];exact zB (i:=0) (.int .i64 gx) H158.out);have HPb:=zh (show BlkIn wB wu.heap.size 7 45 (fun j=> .int .i64 (p j)) by rw [hwB];exact HP8.out.other 0 _ (by omega));have HFb:=HF8;clear hwB g1 f1 hS0 hSa hSb hzW Hs8 H148 H158 HP8 HF8 Hsa H14a H15a HPa
        go_upto_region 14 with fail
        have hzW:p14<wB.heap.size∧p15<wB.heap.size∧wu.heap.size<wB.heap.size:=⟨lt_of_block H14b.out,lt_of_block H15b.out,HPb.out.lt⟩;have hSa:(fun w':World=>w'.cell? ⟨kb,1,none⟩=some (.iface c.T c.pv)∧w'.cell? ⟨p14,1,none⟩=some (.int .i64 bY)∧w'.cell? ⟨p15,1,none⟩=some (.int .i64 vy)) wB.drew:=⟨Hsb.out.k1,zA H14b.out 1,zA H15b.out 1⟩;refine zH (by kernel_rfl) (fun w':World=>w'.cell? ⟨kb,1,none⟩=some (.iface c.T c.pv)∧w'.cell? ⟨p14,1,none⟩=some (.int .i64 bY)∧w'.cell? ⟨p15,1,none⟩=some (.int .i64 vy)) 14 ?_;have hS0:=hSa;refine AnyL.tk 0 (h:=?_);refine AnyL.tk 1 (h:=?_);refine AnyL.tk 2 (h:=?_);refine AnyL.tk 3 (h:=?_);refine AnyL.tk 4 (h:=?_);refine AnyL.tk 5 (h:=?_);refine AnyL.tk 6 (h:=?_);refine AnyL.tk 7 (h:=?_);refine AnyL.tk 8 (h:=?_);refine AnyL.tk 9 (h:=?_);refine AnyL.tk 10 (h:=?_);refine AnyL.on 11 (h:=fun K hK=>?_);go_simp
        refine ((Hsb.out.drew HC.out).here.elem HC.out (vy-bY) Hqy.out).mono ?_;rintro e wC ⟨rfl,F3,g8⟩;have hs8:=(Hsb.out.drew HC.out).trans g8;have hni:∀ x,x=p14∨x=p15∨x=wu.heap.size→x∉sb::mb::F2:=fun x hx h=>by
         have h9:=Hloc.out x (by omega);simp only [List.mem_cons] at h
         rcases h with h|h|h
         ·exact h9.2.1 h
         ·exact h9.2.2.1 h
         ·exact HFb.out x hx h
        have h14':=g8.o.heap (show wB.drew.heap[p14]? =_ from H14b.out) (hni _ (.inl rfl));have h15':=g8.o.heap (show wB.drew.heap[p15]? =_ from H15b.out) (hni _ (.inr (.inl rfl)));have hP':BlkIn wC wu.heap.size 7 45 _:=g8.o.heap (show wB.drew.heap[wu.heap.size]? =_ from HPb.out) (hni _ (.inr (.inr rfl)));have HF8:Hid (∀ x,x=p14∨x=p15∨x=wu.heap.size→x∉F3):=zh (fun x hx h=>(g8.n x h).elim (fun h=>hni x hx (by simp [h])) (fun h=>by
         have h7:wB.drew.heap.size=wB.heap.size:=rfl;omega))
        have hSb:(fun w':World=>w'.cell? ⟨kb,1,none⟩=some (.iface c.T c.pv)∧w'.cell? ⟨p14,1,none⟩=some (.int .i64 bY)∧w'.cell? ⟨p15,1,none⟩=some (.int .i64 vy)) wC:=⟨hs8.k1,zA h14' 1,zA h15' 1⟩;have g1:=zA h15' 1;have f1:=ZB h15' 1;have Hs8:=zh hs8;have H148:=zh h14';have H158:=zh h15';have HP8:=zh hP';clear hs8 h14' h15' hP' hni g8;refine hK _ _ (fun _=>hSb) (fun hKq=>?_);clear hK K hKq
        try simp only [zpt]
        refine AnyL.on 12 (h:=fun K hK=>?_);go_simp;refine hK _ _ (fun _=>hSb) (fun hKq=>?_);clear hK K hKq
        try simp only [zpt]
        refine AnyL.on 13 (h:=fun K hK=>?_);go_simp;refine hK _ _ (fun _=>hSb) (fun hKq=>?_);clear hK K hKq
        try simp only [zpt]
        refine AnyL.on 14 (h:=fun K hK=>?_);go_simp;refine hK _ _ (fun h=>absurd rfl h) (fun hKq=>?_);clear hK K hKq
        try simp only [zpt]
        refine AnyL.dn (h:=?_);obtain ⟨wD,hwB⟩:∃ x,x=wC.setCell ⟨p15,1,none⟩ (.int .i64 gy):=⟨_,rfl⟩;rw [←hwB];have Hsc:=zh (show Scene c F w1 wD kb sb mb (zV S z2) X n (zG ds) F3 _ by
         rw [hwB];exact Hs8.out.only (Y:=[p15]) HC.out ((Only.refl _ _).setCell (.inl (by simp)) _) (by
          simp only [List.mem_singleton,forall_eq];have h9:=Hloc.out p15 (by omega);exact ⟨h9.1,h9.2.1,h9.2.2.1,HF8.out p15 (.inr (.inl rfl)),h9.2.2.2.2.1,h9.2.2.2.2.2⟩))
        have H14c:Hid (wD.heap[p14]? =some (.cells #[.int .i64 bx,.int .i64 bY] 42 (0,0))):=zh (by rw [hwB];exact zC _ H148.out hp15p.2.1);have H15c:Hid (wD.heap[p15]? =some (.cells #[.int .i64 gx,.int .i64 gy] 42 (0,0))):=zh (by rw [hwB];exact zB (i:=1) (.int .i64 gy) H158.out);have HPc:=zh (show BlkIn wD wu.heap.size 7 45 (fun j=> .int .i64 (p j)) by rw [hwB];exact HP8.out.other 1 _ (by omega));have HFc:=HF8;clear hwB g1 f1 hS0 hSa hSb hzW Hs8 H148 H158 HP8 HF8 Hsb H14b H15b HPb;have d0:=zA H15c.out 0;have d1:=zA H15c.out 1;have x0:=HPc.out.cell (3+list*2) (by omega);have x1:=HPc.out.cell (3+list*2+1) (by omega);have y0:=HPc.out.free (3+list*2);have y1:=HPc.out.free (3+list*2+1)
        go_wp2_with fail
        refine (zAY gx (-256) 256 _).mono ?_;rintro e wf ⟨rfl,rfl⟩;rw [decide_eq_true Hin.out.1.1,decide_eq_true Hin.out.1.2]
        go_wp2_with fail
        refine (zAY gy (-256) 256 _).mono ?_;rintro e wf ⟨rfl,rfl⟩;rw [decide_eq_true Hin.out.2.1,decide_eq_true Hin.out.2.2]
        go_upto_region 18 with fail
        obtain ⟨wE,hwE⟩:∃ x,x=(wD.setCell ⟨wu.heap.size,3+list*2,none⟩ (.int .i64 gx)).setCell ⟨wu.heap.size,3+list*2+1,none⟩ (.int .i64 gy):=⟨_,rfl⟩;rw [←hwE];obtain ⟨p',hp'⟩:∃ p':Nat→Int,p'=fun j=>if j=3+2*list then gx else if j=4+2*list then gy else p j:=⟨_,rfl⟩
        have hPE:BlkIn wE wu.heap.size 7 45 (fun j=> .int .i64 (p' j)):=by
         have h9:=(HPc.out.set (3+list*2) (.int .i64 gx)).set (3+list*2+1) (.int .i64 gy);rw [←hwE] at h9;have e:upd (upd (fun j=>Value.int .i64 (p j)) (3+list*2) (.int .i64 gx)) (3+list*2+1) (.int .i64 gy)=fun j=>Value.int .i64 (p' j):=by
          funext j
          rw [hp'];unfold upd;dsimp only
          by_cases h1:j=3+list*2+1
          ·rw [if_pos h1,if_neg (by omega),if_pos (by omega)]
          ·rw [if_neg h1]
           by_cases h2:j=3+list*2
           ·rw [if_pos h2,if_pos (by omega)]
           ·rw [if_neg h2,if_neg (by omega),if_neg (by omega)]
         rw [e] at h9;exact h9
        have HsE:Hid (Scene c F w1 wE kb sb mb (zV S z2) X n (zG ds) F3 (ZI B list Dn G ((ZD shape).drop (i+1)) (i+1)++r)):=zh (by
         rw [hwE];exact Hsc.out.only (Y:=[wu.heap.size]) HC.out (((Only.refl _ _).setCell (.inl (by simp)) _).setCell (.inl (by simp)) _) (by
          simp only [List.mem_singleton,forall_eq];have h9:=Hloc.out wu.heap.size (Nat.le_refl _);exact ⟨h9.1,h9.2.1,h9.2.2.1,HFc.out _ (.inr (.inr rfl)),h9.2.2.2.2.1,h9.2.2.2.2.2⟩))
        have k0:=HsE.out.k0;have p0:=hPE.cell 0 (by decide);have p1:=hPE.cell 1 (by decide);have p2:=hPE.cell 2 (by decide);have p3:=hPE.cell 3 (by decide);have p4:=hPE.cell 4 (by decide);have p5:=hPE.cell 5 (by decide);have p6:=hPE.cell 6 (by decide);have Hp':=zh hp';clear hwE hp' hPE d0 d1 x0 x1 y0 y1
        go_wp2_with fail
        refine (zFn (z:=z2) (q:=p') HsE.out.k HsE.out.s (HC2.out _ HsE.out.o) Hhup.out Hm.out.symm huL HsE.out.ks hbsb).mono ?_;rintro e wz ⟨rfl,h2,h3⟩;have h9:Hid (Scene c F w1 wz kb sb mb (zV S (zDg p' u z2)) X n (zG ds) F3 (ZI B list Dn G ((ZD shape).drop (i+1)) (i+1)++r)∧MotZ c.wr shape G (fun u j=>R u j∨(u<i+1∧(j=3+2*list∨j=4+2*list))) (i:Int) (zDg p' u z2)):=zh ⟨HsE.out.newS HC.out h2 (by rw [zI _ _ (by decide),zI _ _ (by decide)]) h3,Hmz.out.step HS.out HG.out Hu.out Hut.out p' (fun j hj hJ=>by
         rw [Hp'.out];dsimp only
         rcases hJ with hJ|hJ
         ·rw [if_pos hJ,hJ,Hgx.out]
         ·rw [if_neg (by omega),if_pos hJ,hJ,Hgy.out]) (fun j hj hJ=>by
         rw [Hp'.out];dsimp only;rw [if_neg (fun h=>hJ (.inl h)),if_neg (fun h=>hJ (.inr h)),Hp.out])⟩
        clear p0 p1 p2 p3 p4 p5 p6 k0 h2 h3
        go_wp2_with fail
        exact ⟨⟨i+1,F3,zDg p' u z2,i,by omega,rfl,h9⟩,by simp [intOf];omega⟩
  ·obtain rfl:i=LL:=by omega
   go_wp2_with fail
   go_end0
   refine ⟨rfl,F1,z1,k1,?_,?_⟩
   ·have h9:=Hx.out.1;rw [List.drop_of_length_le (by rw [←HLL.out];exact Nat.le_refl _)] at h9;exact Hs1.out.trans h9
   ·refine Hx.out.2.mono (fun u j hul h=>h.elim .inl (fun h=> .inr ⟨by rw [HLL.out];exact hul,h⟩)) HS.out
end Go.Proofs.YtcppbdlmcbjmeaaGreatDoor
