/- Lemmas that the law needs, part 21. -/
import Derived.Test.YtcppbdlmcbjmeaaGreatDoorK14
import Derived.Test.YtcppbdlmcbjmeaaGreatDoorK20
set_option maxHeartbeats 6400000
set_option maxRecDepth 100000
namespace Go.Proofs.YtcppbdlmcbjmeaaGreatDoor
open Go.RowKit
theorem zKw {c:Cod} {F:List Nat} {w:World} {kb sb mb n:Nat} {S X:Nat→Value} {D:List Value} {r:List Ask} {z q G Dn:Nat→Int} {shape a0 a1 kz:Int} {R:Nat→Nat→Prop} {U:List Nat} {v:Value} (hc:c.Ok)
 (h:Scene c F w w kb sb mb (zV S z) X n D F (ZM (a0-1) 0 Dn G (ZD shape)++r)) (hs:0≤shape∧shape≤3) (hG:zHc shape G) (hz:MotZ c.wr shape G R kz z) (hR0:∀ u,R u 0)
 (hU:UnitsIn w U v (ZD shape)) (hUd:∀ i∈U,i≠sb∧i≠mb∧i∉F) (h7:S 7=.int .i64 a0) (h8:S 8=.int .i64 a1) (ba:(0≤a0∧a0≤8)∧0≤a1∧a1≤8)
 (hq:∀ p,p<4→q (7*p)=Dn p) (hqw:c.wr=true→∀ p j,p<4→j<7→Dn p≠3→q (7*p+j)=G (7*p+j)) (hDn:∀ p,p<4→Dn p≠3→Dn p=G (7*p))
 (hrg:∀ p,p<4→Zv 0 (Dn p)=true→0≤G (7*p+1)∧G (7*p+1)≤a0-1) (hRn:∀ p,p<4→Zv 0 (Dn p)=false→R (Zg shape p) 1):
 Calls Tryz.prog 107 #[.pointer (some ⟨kb,0,none⟩),v,.agg (fnA 28 (fun i=> .int .i64 (q i))),.int .i64 0] w fun e w'=>e=.returned (.tuple #[])∧∃ (F':List Nat) (z':Nat→Int),Scene c F w w' kb sb mb (zV S z') X n D F' r∧MotZ c.wr shape G (fun u j=>R u j∨j=1) kz z':=by
 obtain ⟨g,hgU,rfl,hrow⟩:=hU.sl;have mE:=hc.mE;have eE:=hc.eE;have HC:=zh hc;have HG:=zh hG;have HR0:=zh hR0;have HU:=zh hU;have HUd:=zh hUd;have Hq:=zh hq;have Hqw:=zh hqw;have HDn:=zh hDn;have Hrg:=zh hrg;have HRn:=zh hRn;have Hrow:=zh hrow;have HgU:=zh hgU;obtain ⟨w1,hw1⟩:∃ w1,w1=w.alloc (.cells (fnA 28 (fun i=> .int .i64 (q i))) 46):=⟨_,rfl⟩;have o1:Only [] w w1:=by rw [hw1];exact (Only.refl _ w).alloc _
 have hb1:BlkIn w1 w.heap.size 28 46 (fun i=> .int .i64 (q i)):=by rw [hw1];exact ZA w _
 have hs1:=h.same hc o1;have hbF:w.heap.size∉F:=fun hm=>by have:=hc.low F _ _ h.c _ hm;omega
 have hbn:w.heap.size≠kb∧w.heap.size≠sb∧w.heap.size≠mb:=by
  have:=h.l;omega
 obtain ⟨bw,hbw⟩:∃ b,b=w.heap.size:=⟨_,rfl⟩;rw [←hbw] at hb1 hbF hbn;have Hs1:=zh hs1;have HO1:=zh o1;have HB1:=zh hb1;have HbF:=zh hbF;have Hbn:=zh hbn;have hU1:=hU.only o1 (fun _ _=>by simp);have HU1:=zh hU1;have k0:=hs1.k0;have s7:w1.cell? ⟨sb,7,none⟩=some (.int .i64 a0):=by rw [hs1.s.cell 7 (by decide),zI _ _ (by decide),h7]
 have s8:w1.cell? ⟨sb,8,none⟩=some (.int .i64 a1):=by rw [hs1.s.cell 8 (by decide),zI _ _ (by decide),h8]
 have qm:IntKind.i64.wrap (a0-1)=a0-1:=sw _ (by omega) (by omega);have hlen:(ZD shape).length≤4:=zBD shape;obtain ⟨LL,hLL⟩:∃ l,l=(ZD shape).length:=⟨_,rfl⟩;rw [←hLL] at hlen;have HLL:=zh hLL;have HS:=zh hs;have HZ:=zh hz;rw [←hLL];clear h hG hz hR0 hU hUd h7 h8 hq hqw hDn hrg hRn hrow hgU o1 hb1 hs1 hbF hbn hU1 hLL hs hc
 go_enter Tryz.func107,Tryz.ntmps107
 go_wp2_with fail
 rw [←hw1,←hbw];clear hw1 hbw;have ix:∀ w,(Instr.index 40 (.agg #[.int .i64 a0,.int .i64 a1]) (.int .i64 0)).run Tryz.prog w=.ok (.int .i64 a0) w:=fun _=>by kernel_rfl
 go_quiet (fail)
 rename_i nq;clear s7 s8 ix;have Hs2:Hid (Scene c F w1 (w1.drewN nq) kb sb mb (zV S z) X n D F (ZM (a0-1) 0 Dn G (ZD shape)++r)):=zh (Hs1.out.here.drewN HC.out nq);have HO2:Hid (Only [] w1 (w1.drewN nq)):=zh ((Only.refl [] w1).drewN nq);obtain ⟨mo,hmo⟩:∃ m,m=a0-1:=⟨_,rfl⟩;rw [←hmo] at Hs2 Hrg;have hmob:-1≤mo∧mo≤7:=by omega
 rw [←hmo];clear hmo qm k0;generalize w1.drewN nq=w2 at*
 go_wp2_with fail
 go_loopw [34] (fun s wx=>∃ (i:Nat) (F1:List Nat) (z1:Nat→Int),i≤LL∧s=.int .i64 (i:Int)∧Hid (Scene c F w1 wx kb sb mb (zV S z1) X n D F1 (ZM mo 0 Dn G ((ZD shape).drop i)++r)∧MotZ c.wr shape G (fun u j=>R u j∨(u<i∧j=1)) kz z1)) (fun s _=>(LL-intOf s).toNat)
 case atStart=>exact ⟨0,F,z,Nat.zero_le _,rfl,zh ⟨Hs2.out,HZ.out.mono (fun u j _ h=>h.elim id (fun h=>absurd h.1 (by omega))) HS.out⟩⟩
 case round=>
  obtain ⟨i,F1,z1,hi,rfl,Hx⟩:=hrel
  by_cases hlt:i<LL
  ·obtain ⟨u,hu⟩:∃ u,(ZD shape)[i]? =some u:=⟨_,List.getElem?_eq_getElem (by rw [←HLL.out];exact hlt)⟩;obtain ⟨hd,tl,hut,hd4,hhd,hum⟩:=ZY HS.out i u hu;have hui:Zg shape hd=i:=((hum hd hd4).1).1 (hut▸List.mem_cons_self);have huL:u.length≤4:=(zO shape u (List.mem_of_getElem? hu)).1;have hup:∀ p∈u,p<4:=(zO shape u (List.mem_of_getElem? hu)).2.2;have hdrop:(ZD shape).drop i=u::(ZD shape).drop (i+1):=by
    rw [List.drop_eq_getElem_cons (by rw [←HLL.out];exact hlt)];rw [List.getElem?_eq_getElem (by rw [←HLL.out];exact hlt)] at hu;rw [Option.some.inj hu]
   have hh0:hd0 u=hd:=by rw [hut];rfl
   obtain ⟨b,hbU,hc1,hc2⟩:=Hrow.out i u hu;have hx:=Hx.out.1;have oB:∀ j∈U,j∉sb::mb::F:=fun j hj e=>by
    have h9:=HUd.out j hj;simp only [List.mem_cons] at e
    rcases e with e|e|e
    ·exact h9.1 e
    ·exact h9.2.1 e
    ·exact h9.2.2 e
   have c1:=hx.o.cell (HO1.out.cell hc1 (by simp)) (oB g HgU.out);have hC2:∀ wx,Only (sb::mb::F) w1 wx→∀ (j p:Nat),u[j]? =some p→wx.cell? ⟨b,j,none⟩=some (.int .i64 p):=fun wx ho j p hj=>ho.cell (HO1.out.cell (hc2 j p hj) (by simp)) (oB b hbU)
   have HC2:=zh hC2;have c20:=hC2 wr hx.o 0 hd (by rw [hut];rfl);have Hut0:Hid (u[0]? =some hd):=zh (by rw [hut];rfl);have hbsb:b≠sb:=(HUd.out b hbU).1;have hBX:∀ wx,Only (sb::mb::F) w1 wx→BlkIn wx bw 28 46 (fun i=> .int .i64 (q i)):=fun wx ho=>ho.heap HB1.out (by
    simp only [List.mem_cons,not_or];exact ⟨Hbn.out.2.1,Hbn.out.2.2,HbF.out⟩)
   have HBX:=zh hBX;have Hhup:=zh hup;have Hhdrop:=zh hdrop;have Hu:=zh hu;have Hut:=zh hut;have Hui:=zh hui;have Hh0:=zh hh0;obtain ⟨m,hm⟩:∃ m,m=u.length:=⟨_,rfl⟩;have h1m:1≤m:=by rw [hm,hut];simp
   rw [←hm] at huL c1;have Hm:=zh hm;have k0:=hx.k0;have h0m:0<m:=h1m;have hd4i:(hd:Int)<4:=by omega
   have hzr:wr.rangeAt sb (42+hd*7) [.int .i64 (z1 (18+(7*hd+0))),.int .i64 (z1 (18+(7*hd+1))),.int .i64 (z1 (18+(7*hd+2))),.int .i64 (z1 (18+(7*hd+3))),.int .i64 (z1 (18+(7*hd+4))),.int .i64 (z1 (18+(7*hd+5))),.int .i64 (z1 (18+(7*hd+6)))]:=by
    have h9:=zAN (o:=42+hd*7) (len:=7) hx.s (fun j=>z1 (18+(7*hd+j))) (fun j hj=>by rw [show 42+hd*7+j=24+(18+(7*hd+j)) by omega];exact zB4 S z1 _) (by omega);exact h9
   obtain ⟨Z0,hZ0⟩:∃ x,x=z1 (18+(7*hd+0)):=⟨_,rfl⟩;rw [←hZ0] at hzr;have HZ0:=zh hZ0;clear hZ0;obtain ⟨Z1,hZ1⟩:∃ x,x=z1 (18+(7*hd+1)):=⟨_,rfl⟩;rw [←hZ1] at hzr;have HZ1:=zh hZ1;clear hZ1;obtain ⟨Z2,hZ2⟩:∃ x,x=z1 (18+(7*hd+2)):=⟨_,rfl⟩;rw [←hZ2] at hzr;have HZ2:=zh hZ2;clear hZ2;obtain ⟨Z3,hZ3⟩:∃ x,x=z1 (18+(7*hd+3)):=⟨_,rfl⟩;rw [←hZ3] at hzr;have HZ3:=zh hZ3;clear hZ3;obtain ⟨Z4,hZ4⟩:∃ x,x=z1 (18+(7*hd+4)):=⟨_,rfl⟩;rw [←hZ4] at hzr;have HZ4:=zh hZ4;clear hZ4;obtain ⟨Z5,hZ5⟩:∃ x,x=z1 (18+(7*hd+5)):=⟨_,rfl⟩;rw [←hZ5] at hzr;have HZ5:=zh hZ5;clear hZ5;obtain ⟨Z6,hZ6⟩:∃ x,x=z1 (18+(7*hd+6)):=⟨_,rfl⟩;rw [←hZ6] at hzr;have HZ6:=zh hZ6;clear hZ6;have hlow:∀ i∈F1,i<wr.heap.size:=HC.out.low F1 _ _ hx.c;have Hlow:=zh hlow
   have hpsz:wr.heap.size≠sb∧wr.heap.size≠mb∧wr.heap.size≠kb∧wr.heap.size≠b∧wr.heap.size≠bw:=by
    have h9:=hx.l;have h10:=hx.o.size;have h11:=(HBX.out wr hx.o).lt;have h12:=HU1.out.lt b hbU;omega
   have Hpsz:=zh hpsz;have HPY:Hid (wr.heap.size≠kb∧wr.heap.size≠sb∧wr.heap.size≠mb∧wr.heap.size∉F1∧(zV S z1 23).ownBlock≠some wr.heap.size∧w1.heap.size≤wr.heap.size):=zh ⟨hpsz.2.2.1,hpsz.1,hpsz.2.1,fun h=>by have:=hlow _ h;omega,fun h=>by have:=(hx.ag h).2.2.2;omega,hx.o.size⟩;have hA:(wr.drew.alloc (.cells #[.int .i64 0,.int .i64 0,.int .i64 0,.int .i64 0,.int .i64 0,.int .i64 0,.int .i64 0] 45)).heap[wr.heap.size]? =some (.cells #[.int .i64 0,.int .i64 0,.int .i64 0,.int .i64 0,.int .i64 0,.int .i64 0,.int .i64 0] 45 (0,0)):=ZA wr.drew _;have HA:=zh hA;clear hx hum hup hdrop hu hut hc1 hc2 hC2 oB hui hh0 hhd hm hBX hlow hpsz hA
   go_upto_region 5 with fail
   refine zH (by kernel_rfl) (fun w':World=>w'.cell? ⟨kb,0,none⟩=some (.pointer (some ⟨sb,0,none⟩))∧w'.cell? ⟨b,0,none⟩=some (.int .i64 hd)∧w'.rangeAt sb (42+hd*7) [.int .i64 Z0,.int .i64 Z1,.int .i64 Z2,.int .i64 Z3,.int .i64 Z4,.int .i64 Z5,.int .i64 Z6]) 13 ?_;have hS0:(fun w':World=>w'.cell? ⟨kb,0,none⟩=some (.pointer (some ⟨sb,0,none⟩))∧w'.cell? ⟨b,0,none⟩=some (.int .i64 hd)∧w'.rangeAt sb (42+hd*7) [.int .i64 Z0,.int .i64 Z1,.int .i64 Z2,.int .i64 Z3,.int .i64 Z4,.int .i64 Z5,.int .i64 Z6]) wr.drew:=⟨k0,c20,hzr⟩;refine AnyL.tk 0 (h:=?_);refine AnyL.tk 1 (h:=?_);refine AnyL.tk 2 (h:=?_);refine AnyL.tk 3 (h:=?_);refine AnyL.tk 4 (h:=?_);refine AnyL.tk 5 (h:=?_);refine AnyL.tk 6 (h:=?_);refine AnyL.tk 7 (h:=?_);refine AnyL.tk 8 (h:=?_);refine AnyL.tk 9 (h:=?_);refine AnyL.tk 10 (h:=?_)
   refine AnyL.tl 11 rfl (yieldsIf_load_mid (by rfl) _ _ rfl sb (42+hd*7) rfl [.int .i64 Z0,.int .i64 Z1,.int .i64 Z2,.int .i64 Z3,.int .i64 Z4,.int .i64 Z5,.int .i64 Z6] _ (fun w' h=>h.2.2) Tryz.underlying45 rfl (by kernel_rfl)) ?_;refine AnyL.on 12 (h:=fun K hK=>?_);go_simp;have hS1:(fun w':World=>w'.cell? ⟨kb,0,none⟩=some (.pointer (some ⟨sb,0,none⟩))∧w'.cell? ⟨b,0,none⟩=some (.int .i64 hd)∧w'.rangeAt sb (42+hd*7) [.int .i64 Z0,.int .i64 Z1,.int .i64 Z2,.int .i64 Z3,.int .i64 Z4,.int .i64 Z5,.int .i64 Z6]) (wr.drew.alloc (.cells #[.int .i64 0,.int .i64 0,.int .i64 0,.int .i64 0,.int .i64 0,.int .i64 0,.int .i64 0] 45)):=⟨(Only.refl [] _).alloc _ |>.cell hS0.1 (by simp),(Only.refl [] _).alloc _ |>.cell hS0.2.1 (by simp),fun j v hj=>(Only.refl [] _).alloc _ |>.cell (hS0.2.2 j v hj) (by simp)⟩;refine hK _ _ (fun _=>hS1) (fun hKq=>?_);clear hK K hKq
   try simp only [zpt]
   refine AnyL.on 13 (h:=fun K hK=>?_);rw [if_pos (by rfl)];refine ZG _ _ _ rfl wr.heap.size [.int .i64 Z0,.int .i64 Z1,.int .i64 Z2,.int .i64 Z3,.int .i64 Z4,.int .i64 Z5,.int .i64 Z6] rfl rfl HA.out (by kernel_rfl) rfl (by simp [Value.oneCell']) fun w5 h5 o5=>?_
   refine hK _ _ (fun h=>absurd rfl h) (fun hKq=>?_);clear hK K hKq
   try simp only [Act.put]
   refine AnyL.dn (h:=?_);have oP:Only [] wr w5:=(((Only.refl [] wr).drew).alloc _).trans' o5 (fun i hi=> .inr (by simp at hi;omega));have hsc:=Hx.out.1.same HC.out oP;have Hsc:=zh hsc;have Hmz:=zh Hx.out.2;have OP:=zh oP;have cD:w5.cell? ⟨bw,hd*7,none⟩=some (.int .i64 (Dn hd)):=by rw [(HBX.out w5 hsc.o).cell (hd*7) (by omega),Nat.mul_comm,Hq.out hd hd4]
   have c20:=HC2.out w5 hsc.o 0 hd Hut0.out;have HP:=zh h5;have g0:=zA h5 0;have hk0:=hsc.k0;clear hS0 hS1 k0 c1 h5 o5 oP hsc hzr HA Hx;have hskip:Zv 0 (Dn hd)=false→Hid (Scene c F w1 w5 kb sb mb (zV S z1) X n D F1 (ZM mo 0 Dn G ((ZD shape).drop (i+1))++r)∧MotZ c.wr shape G (fun u j=>R u j∨(u<i+1∧j=1)) kz z1):=fun hh=>by
    have e:ZM mo 0 Dn G ((ZD shape).drop i)=ZM mo 0 Dn G ((ZD shape).drop (i+1)):=by
     rw [Hhdrop.out]
     show (if _ then _ else [])++_=_
     rw [Hh0.out,if_neg (by rw [hh];simp)]
     rfl
    have h9:=Hsc.out;rw [e] at h9;refine zh ⟨h9,Hmz.out.skip HS.out (fun j hj=>?_)⟩;have h8:=HRn.out hd hd4 hh;rw [Hui.out] at h8;rw [hj];exact h8
   have Hskip:=zh hskip;clear hskip
   by_cases hD:Dn hd=3
   ·rw [hD] at cD
    go_wp2_with fail
    exact ⟨⟨i+1,F1,z1,by omega,rfl,Hskip.out (by rw [hD];rfl)⟩,by simp [intOf];omega⟩
   ·have bD:decide (Dn hd=3)=false:=decide_eq_false hD;have hZD:Z0=Dn hd:=by
     rw [HZ0.out,Hmz.out.got hd 0 hd4 (by decide) (.inl (HR0.out _)),Nat.add_zero];exact (HDn.out hd hd4 hD).symm
    have HZD:=zh hZD;clear hZD
    go_wp2_with fail
    refine (zBQ _ _).mono ?_;rintro e w6 ⟨rfl,o6⟩;obtain ⟨B0,hB0⟩:∃ b,b=Zv 0 Z0:=⟨_,rfl⟩;obtain ⟨B1,hB1⟩:∃ b,b=Zv 1 Z0:=⟨_,rfl⟩;rw [←hB0,←hB1];have HB0:=zh hB0;have HB1':=zh hB1;clear hB0 hB1;have ix:∀ w,(Instr.index 177 (.agg #[.bool B0,.bool B1]) (.int .i64 0)).run Tryz.prog w=.ok (.bool B0) w:=fun _=>by kernel_rfl
    have Hs6:=zh (Hsc.out.same HC.out o6);have hp6:=o6.heap HP.out (by simp);have hz6:wr.heap.size<w6.heap.size:=lt_of_block hp6;clear g0 hk0 cD c20
    cases B0 with
    |false=>
     clear hp6
     go_wp2_with fail
     have h9:=Hskip.out (by rw [←HZD.out];exact HB0.out.symm);exact ⟨⟨i+1,F1,z1,by omega,rfl,zh ⟨h9.out.1.same HC.out o6,h9.out.2⟩⟩,by simp [intOf];omega⟩
    |true=>
     have hhas:Zv 0 (Dn hd)=true:=by rw [←HZD.out];exact HB0.out.symm
     have hr:=Hrg.out hd hd4 hhas;obtain ⟨rf,hrf⟩:∃ x,x=G (7*hd+1):=⟨_,rfl⟩;rw [←hrf] at hr;have g1:=zA hp6 1;have f1:=ZB hp6 1;obtain ⟨w7,hw7⟩:∃ w7,w7=w6.setCell ⟨wr.heap.size,1,none⟩ (.int .i64 0):=⟨_,rfl⟩;have HP7:Hid (w7.heap[wr.heap.size]? =some (.cells #[.int .i64 Z0,.int .i64 0,.int .i64 Z2,.int .i64 Z3,.int .i64 Z4,.int .i64 Z5,.int .i64 Z6] 45 (0,0))):=zh (by rw [hw7];exact zB (i:=1) (.int .i64 0) hp6);have hs7:Scene c F w1 w7 kb sb mb (zV S z1) X n D F1 (ZM mo 0 Dn G ((ZD shape).drop i)++r):=by
      rw [hw7];exact Hs6.out.only (Y:=[wr.heap.size]) HC.out ((Only.refl _ _).setCell (.inl (by simp)) _) (by simp only [List.mem_singleton,forall_eq];exact HPY.out)
     have e:ZM mo 0 Dn G ((ZD shape).drop i)=(if 0<mo then [.elem 8 0 rf mo] else [])++ZM mo 0 Dn G ((ZD shape).drop (i+1)):=by
      rw [Hhdrop.out]
      show (if _ then _ else [])++_=_
      rw [Hh0.out,hhas];simp only [true_and,hrf,Nat.add_zero]
     rw [e] at hs7;have Hs7:=zh hs7;have Hhas:=zh hhas;have Hrf:=zh hrf;clear hs7 e hp6 hhas hrf Hskip Hsc Hs6;have Hend:Hid (∀ wx w9 F2,Scene c F w1 wx kb sb mb (zV S z1) X n D F2 (ZM mo 0 Dn G ((ZD shape).drop (i+1))++r)→BlkIn w9 sb 75 106 (zV S (zDg (zHZ Z0 rf Z2 Z3 Z4 Z5 Z6) u z1))→Only [sb] wx w9→
      Scene c F w1 w9 kb sb mb (zV S (zDg (zHZ Z0 rf Z2 Z3 Z4 Z5 Z6) u z1)) X n D F2 (ZM mo 0 Dn G ((ZD shape).drop (i+1))++r)∧MotZ c.wr shape G (fun u j=>R u j∨(u<i+1∧j=1)) kz (zDg (zHZ Z0 rf Z2 Z3 Z4 Z5 Z6) u z1)):=zh (fun wx w9 F2 h1 h2 h3=>by
      refine ⟨h1.newS HC.out h2 (by rw [zI _ _ (by decide),zI _ _ (by decide)]) h3,Hmz.out.step HS.out HG.out Hu.out Hut.out _ (fun j hj hJ=>?_) (fun j hj hJ=>?_)⟩
      ·rw [hJ];exact Hrf.out
      ·obtain rfl|rfl|rfl|rfl|rfl|rfl|rfl:j=0∨j=1∨j=2∨j=3∨j=4∨j=5∨j=6:=by omega
       all_goals first|exact absurd rfl hJ|exact HZ0.out|exact HZ1.out|exact HZ2.out|exact HZ3.out|exact HZ4.out|exact HZ5.out|exact HZ6.out)
     by_cases hmo:0<mo
     ·rw [if_pos hmo] at Hs7;have bmo:decide (0<mo)=true:=decide_eq_true hmo
      go_upto_region 9 with fail
      rw [←hw7];clear hw7 g1 f1 ix;have hS9:(fun w':World=>w'.cell? ⟨kb,1,none⟩=some (.iface c.T c.pv)∧w'.cell? ⟨b,0,none⟩=some (.int .i64 hd)∧w'.cell? ⟨bw,hd*7+1,none⟩=some (.int .i64 (q (7*hd+1)))) w7.drew:=⟨Hs7.out.k1,HC2.out w7 Hs7.out.o 0 hd Hut0.out,by
       show w7.cell? ⟨bw,hd*7+1,none⟩=_
       rw [(HBX.out w7 Hs7.out.o).cell (hd*7+1) (by omega),Nat.mul_comm]⟩
      refine zH (by kernel_rfl) (fun w':World=>w'.cell? ⟨kb,1,none⟩=some (.iface c.T c.pv)∧w'.cell? ⟨b,0,none⟩=some (.int .i64 hd)∧w'.cell? ⟨bw,hd*7+1,none⟩=some (.int .i64 (q (7*hd+1)))) 19 ?_;have hS0:=hS9;refine AnyL.tk 0 (h:=?_);refine AnyL.tk 1 (h:=?_);refine AnyL.tk 2 (h:=?_);refine AnyL.tk 3 (h:=?_);refine AnyL.tk 4 (h:=?_);refine AnyL.tk 5 (h:=?_);refine AnyL.tk 6 (h:=?_);refine AnyL.tk 7 (h:=?_);refine AnyL.tk 8 (h:=?_);refine AnyL.tk 9 (h:=?_);refine AnyL.tk 10 (h:=?_);refine AnyL.tk 11 (h:=?_);refine AnyL.tk 12 (h:=?_);refine AnyL.tk 13 (h:=?_);refine AnyL.tk 14 (h:=?_);refine AnyL.tk 15 (h:=?_);refine AnyL.tk 17 (h:=?_);refine AnyL.on 16 (h:=fun K hK=>?_);go_simp;refine ((Hs7.out.drew HC.out).here.elem HC.out (q (7*hd+1)) (fun hwr=>by
       rw [Hrf.out];exact Hqw.out hwr hd 1 hd4 (by decide) hD)).mono ?_
      rintro e w8 ⟨rfl,F2,g8⟩;have hs8:=(Hs7.out.drew HC.out).trans g8;have hp8:=g8.o.heap (show w7.drew.heap[wr.heap.size]? =_ from HP7.out) (by
       simp only [List.mem_cons,not_or];exact ⟨HPY.out.2.1,HPY.out.2.2.1,HPY.out.2.2.2.1⟩)
      have hpF2:wr.heap.size∉F2:=fun h=>(g8.n _ h).elim HPY.out.2.2.2.1 (fun h=>by
       have h7:wr.heap.size<w7.drew.heap.size:=lt_of_block (show w7.drew.heap[wr.heap.size]? =_ from HP7.out);omega)
      have hS10:(fun w':World=>w'.cell? ⟨kb,1,none⟩=some (.iface c.T c.pv)∧w'.cell? ⟨b,0,none⟩=some (.int .i64 hd)∧w'.cell? ⟨bw,hd*7+1,none⟩=some (.int .i64 (q (7*hd+1)))) w8:=⟨hs8.k1,HC2.out w8 hs8.o 0 hd Hut0.out,by
       show w8.cell? ⟨bw,hd*7+1,none⟩=_
       rw [(HBX.out w8 hs8.o).cell (hd*7+1) (by omega),Nat.mul_comm]⟩
      have g1:=zA hp8 1;have f1:=ZB hp8 1;have Hs8:=zh hs8;have HP8:=zh hp8;have HF2:=zh hpF2;clear hs8 hp8 hpF2 g8;refine hK _ _ (fun _=>hS10) (fun hKq=>?_);clear hK K hKq
      try simp only [zpt]
      refine AnyL.on 18 (h:=fun K hK=>?_);go_simp;refine hK _ _ (fun _=>hS10) (fun hKq=>?_);clear hK K hKq
      try simp only [zpt]
      refine AnyL.on 19 (h:=fun K hK=>?_);go_simp;refine hK _ _ (fun h=>absurd rfl h) (fun hKq=>?_);clear hK K hKq
      try simp only [zpt]
      refine AnyL.dn (h:=?_);obtain ⟨w9,hw9⟩:∃ w9,w9=w8.setCell ⟨wr.heap.size,1,none⟩ (.int .i64 rf):=⟨_,rfl⟩;rw [←hw9];have HP9:Hid (w9.heap[wr.heap.size]? =some (.cells #[.int .i64 Z0,.int .i64 rf,.int .i64 Z2,.int .i64 Z3,.int .i64 Z4,.int .i64 Z5,.int .i64 Z6] 45 (0,0))):=zh (by rw [hw9];exact zB (i:=1) (.int .i64 rf) HP8.out);have Hs9:Hid (Scene c F w1 w9 kb sb mb (zV S z1) X n D F2 (ZM mo 0 Dn G ((ZD shape).drop (i+1))++r)):=zh (by
       rw [hw9];exact Hs8.out.only (Y:=[wr.heap.size]) HC.out ((Only.refl _ _).setCell (.inl (by simp)) _) (by
        simp only [List.mem_singleton,forall_eq];exact ⟨HPY.out.1,HPY.out.2.1,HPY.out.2.2.1,HF2.out,HPY.out.2.2.2.2.1,HPY.out.2.2.2.2.2⟩))
      clear hw9 g1 f1 hS0 hS9 hS10 Hs8 HP8;have k0:=Hs9.out.k0;have p0:=zA HP9.out 0;have p1:=zA HP9.out 1;have p2:=zA HP9.out 2;have p3:=zA HP9.out 3;have p4:=zA HP9.out 4;have p5:=zA HP9.out 5;have p6:=zA HP9.out 6
      go_wp2_with fail
      refine (zFn (z:=z1) (q:=zHZ Z0 rf Z2 Z3 Z4 Z5 Z6) Hs9.out.k Hs9.out.s (HC2.out _ Hs9.out.o) Hhup.out Hm.out.symm huL Hs9.out.ks hbsb).mono ?_;rintro e wz ⟨rfl,h2,h3⟩;have h9:=zh (Hend.out _ wz _ Hs9.out h2 h3);clear p0 p1 p2 p3 p4 p5 p6 k0 h2 h3
      go_wp2_with fail
      exact ⟨⟨i+1,_,_,by omega,rfl,h9⟩,by simp [intOf];omega⟩
     ·rw [if_neg hmo] at Hs7;have bmo:decide (0<mo)=false:=decide_eq_false hmo;have hr0:rf=0:=by omega
      subst hr0
      go_upto_region 10 with fail
      rw [←hw7];clear hw7 g1 f1 ix;have k0:=Hs7.out.k0;have p0:=zA HP7.out 0;have p1:=zA HP7.out 1;have p2:=zA HP7.out 2;have p3:=zA HP7.out 3;have p4:=zA HP7.out 4;have p5:=zA HP7.out 5;have p6:=zA HP7.out 6
      go_wp2_with fail
      refine (zFn (z:=z1) (q:=zHZ Z0 0 Z2 Z3 Z4 Z5 Z6) Hs7.out.k Hs7.out.s (HC2.out _ Hs7.out.o) Hhup.out Hm.out.symm huL Hs7.out.ks hbsb).mono ?_;rintro e w9 ⟨rfl,h2,h3⟩;have h9:=zh (Hend.out _ w9 _ Hs7.out h2 h3);clear p0 p1 p2 p3 p4 p5 p6 k0 h2 h3
      go_wp2_with fail
      exact ⟨⟨i+1,_,_,by omega,rfl,h9⟩,by simp [intOf];omega⟩
  ·obtain rfl:i=LL:=by omega
   go_wp2_with fail
   go_end0
   refine ⟨rfl,F1,z1,?_,?_⟩
   ·have h9:=Hx.out.1;rw [List.drop_of_length_le (by rw [←HLL.out];exact Nat.le_refl _)] at h9;exact Hs1.out.trans h9
   ·refine Hx.out.2.mono (fun u j hul h=>h.elim .inl (fun h=> .inr ⟨by rw [HLL.out];exact hul,h⟩)) HS.out
theorem zKv {c:Cod} {F:List Nat} {w:World} {kb sb mb n:Nat} {S X:Nat→Value} {D:List Value} {r:List Ask} {z q G Dn:Nat→Int} {shape a0 a1 kz:Int} {R:Nat→Nat→Prop} {U:List Nat} {v:Value} (hc:c.Ok)
 (h:Scene c F w w kb sb mb (zV S z) X n D F (ZM (a1-1) 1 Dn G (ZD shape)++r)) (hs:0≤shape∧shape≤3) (hG:zHc shape G) (hz:MotZ c.wr shape G R kz z) (hR0:∀ u,R u 0)
 (hU:UnitsIn w U v (ZD shape)) (hUd:∀ i∈U,i≠sb∧i≠mb∧i∉F) (h7:S 7=.int .i64 a0) (h8:S 8=.int .i64 a1) (ba:(0≤a0∧a0≤8)∧0≤a1∧a1≤8)
 (hq:∀ p,p<4→q (7*p)=Dn p) (hqw:c.wr=true→∀ p j,p<4→j<7→Dn p≠3→q (7*p+j)=G (7*p+j)) (hDn:∀ p,p<4→Dn p≠3→Dn p=G (7*p))
 (hrg:∀ p,p<4→Zv 1 (Dn p)=true→0≤G (7*p+2)∧G (7*p+2)≤a1-1) (hRn:∀ p,p<4→Zv 1 (Dn p)=false→R (Zg shape p) 2):
 Calls Tryz.prog 107 #[.pointer (some ⟨kb,0,none⟩),v,.agg (fnA 28 (fun i=> .int .i64 (q i))),.int .i64 1] w fun e w'=>e=.returned (.tuple #[])∧∃ (F':List Nat) (z':Nat→Int),Scene c F w w' kb sb mb (zV S z') X n D F' r∧MotZ c.wr shape G (fun u j=>R u j∨j=2) kz z':=by
 obtain ⟨g,hgU,rfl,hrow⟩:=hU.sl;have mE:=hc.mE;have eE:=hc.eE;have HC:=zh hc;have HG:=zh hG;have HR0:=zh hR0;have HU:=zh hU;have HUd:=zh hUd;have Hq:=zh hq;have Hqw:=zh hqw;have HDn:=zh hDn;have Hrg:=zh hrg;have HRn:=zh hRn;have Hrow:=zh hrow;have HgU:=zh hgU;obtain ⟨w1,hw1⟩:∃ w1,w1=w.alloc (.cells (fnA 28 (fun i=> .int .i64 (q i))) 46):=⟨_,rfl⟩;have o1:Only [] w w1:=by rw [hw1];exact (Only.refl _ w).alloc _
 have hb1:BlkIn w1 w.heap.size 28 46 (fun i=> .int .i64 (q i)):=by rw [hw1];exact ZA w _
 have hs1:=h.same hc o1;have hbF:w.heap.size∉F:=fun hm=>by have:=hc.low F _ _ h.c _ hm;omega
 have hbn:w.heap.size≠kb∧w.heap.size≠sb∧w.heap.size≠mb:=by
  have:=h.l;omega
 obtain ⟨bw,hbw⟩:∃ b,b=w.heap.size:=⟨_,rfl⟩;rw [←hbw] at hb1 hbF hbn;have Hs1:=zh hs1;have HO1:=zh o1;have HB1:=zh hb1;have HbF:=zh hbF;have Hbn:=zh hbn;have hU1:=hU.only o1 (fun _ _=>by simp);have HU1:=zh hU1;have k0:=hs1.k0;have s7:w1.cell? ⟨sb,7,none⟩=some (.int .i64 a0):=by rw [hs1.s.cell 7 (by decide),zI _ _ (by decide),h7]
 have s8:w1.cell? ⟨sb,8,none⟩=some (.int .i64 a1):=by rw [hs1.s.cell 8 (by decide),zI _ _ (by decide),h8]
 have qm:IntKind.i64.wrap (a1-1)=a1-1:=sw _ (by omega) (by omega);have hlen:(ZD shape).length≤4:=zBD shape;obtain ⟨LL,hLL⟩:∃ l,l=(ZD shape).length:=⟨_,rfl⟩;rw [←hLL] at hlen;have HLL:=zh hLL;have HS:=zh hs;have HZ:=zh hz;rw [←hLL];clear h hG hz hR0 hU hUd h7 h8 hq hqw hDn hrg hRn hrow hgU o1 hb1 hs1 hbF hbn hU1 hLL hs hc
 go_enter Tryz.func107,Tryz.ntmps107
 go_wp2_with fail
 rw [←hw1,←hbw];clear hw1 hbw;have ix:∀ w,(Instr.index 40 (.agg #[.int .i64 a0,.int .i64 a1]) (.int .i64 1)).run Tryz.prog w=.ok (.int .i64 a1) w:=fun _=>by kernel_rfl
 go_quiet (fail)
 rename_i nq;clear s7 s8 ix;have Hs2:Hid (Scene c F w1 (w1.drewN nq) kb sb mb (zV S z) X n D F (ZM (a1-1) 1 Dn G (ZD shape)++r)):=zh (Hs1.out.here.drewN HC.out nq);have HO2:Hid (Only [] w1 (w1.drewN nq)):=zh ((Only.refl [] w1).drewN nq);obtain ⟨mo,hmo⟩:∃ m,m=a1-1:=⟨_,rfl⟩;rw [←hmo] at Hs2 Hrg;have hmob:-1≤mo∧mo≤7:=by omega
 rw [←hmo];clear hmo qm k0;generalize w1.drewN nq=w2 at*
 go_wp2_with fail
 go_loopw [34] (fun s wx=>∃ (i:Nat) (F1:List Nat) (z1:Nat→Int),i≤LL∧s=.int .i64 (i:Int)∧Hid (Scene c F w1 wx kb sb mb (zV S z1) X n D F1 (ZM mo 1 Dn G ((ZD shape).drop i)++r)∧MotZ c.wr shape G (fun u j=>R u j∨(u<i∧j=2)) kz z1)) (fun s _=>(LL-intOf s).toNat)
 case atStart=>exact ⟨0,F,z,Nat.zero_le _,rfl,zh ⟨Hs2.out,HZ.out.mono (fun u j _ h=>h.elim id (fun h=>absurd h.1 (by omega))) HS.out⟩⟩
 case round=>
  obtain ⟨i,F1,z1,hi,rfl,Hx⟩:=hrel
  by_cases hlt:i<LL
  ·obtain ⟨u,hu⟩:∃ u,(ZD shape)[i]? =some u:=⟨_,List.getElem?_eq_getElem (by rw [←HLL.out];exact hlt)⟩;obtain ⟨hd,tl,hut,hd4,hhd,hum⟩:=ZY HS.out i u hu;have hui:Zg shape hd=i:=((hum hd hd4).1).1 (hut▸List.mem_cons_self);have huL:u.length≤4:=(zO shape u (List.mem_of_getElem? hu)).1;have hup:∀ p∈u,p<4:=(zO shape u (List.mem_of_getElem? hu)).2.2;have hdrop:(ZD shape).drop i=u::(ZD shape).drop (i+1):=by
    rw [List.drop_eq_getElem_cons (by rw [←HLL.out];exact hlt)];rw [List.getElem?_eq_getElem (by rw [←HLL.out];exact hlt)] at hu;rw [Option.some.inj hu]
   have hh0:hd0 u=hd:=by rw [hut];rfl
   obtain ⟨b,hbU,hc1,hc2⟩:=Hrow.out i u hu;have hx:=Hx.out.1;have oB:∀ j∈U,j∉sb::mb::F:=fun j hj e=>by
    have h9:=HUd.out j hj;simp only [List.mem_cons] at e
    rcases e with e|e|e
    ·exact h9.1 e
    ·exact h9.2.1 e
    ·exact h9.2.2 e
   have c1:=hx.o.cell (HO1.out.cell hc1 (by simp)) (oB g HgU.out);have hC2:∀ wx,Only (sb::mb::F) w1 wx→∀ (j p:Nat),u[j]? =some p→wx.cell? ⟨b,j,none⟩=some (.int .i64 p):=fun wx ho j p hj=>ho.cell (HO1.out.cell (hc2 j p hj) (by simp)) (oB b hbU)
   have HC2:=zh hC2;have c20:=hC2 wr hx.o 0 hd (by rw [hut];rfl);have Hut0:Hid (u[0]? =some hd):=zh (by rw [hut];rfl);have hbsb:b≠sb:=(HUd.out b hbU).1;have hBX:∀ wx,Only (sb::mb::F) w1 wx→BlkIn wx bw 28 46 (fun i=> .int .i64 (q i)):=fun wx ho=>ho.heap HB1.out (by
    simp only [List.mem_cons,not_or];exact ⟨Hbn.out.2.1,Hbn.out.2.2,HbF.out⟩)
   have HBX:=zh hBX;have Hhup:=zh hup;have Hhdrop:=zh hdrop;have Hu:=zh hu;have Hut:=zh hut;have Hui:=zh hui;have Hh0:=zh hh0;obtain ⟨m,hm⟩:∃ m,m=u.length:=⟨_,rfl⟩;have h1m:1≤m:=by rw [hm,hut];simp
   rw [←hm] at huL c1;have Hm:=zh hm;have k0:=hx.k0;have h0m:0<m:=h1m;have hd4i:(hd:Int)<4:=by omega
   have hzr:wr.rangeAt sb (42+hd*7) [.int .i64 (z1 (18+(7*hd+0))),.int .i64 (z1 (18+(7*hd+1))),.int .i64 (z1 (18+(7*hd+2))),.int .i64 (z1 (18+(7*hd+3))),.int .i64 (z1 (18+(7*hd+4))),.int .i64 (z1 (18+(7*hd+5))),.int .i64 (z1 (18+(7*hd+6)))]:=by
    have h9:=zAN (o:=42+hd*7) (len:=7) hx.s (fun j=>z1 (18+(7*hd+j))) (fun j hj=>by rw [show 42+hd*7+j=24+(18+(7*hd+j)) by omega];exact zB4 S z1 _) (by omega);exact h9
   obtain ⟨Z0,hZ0⟩:∃ x,x=z1 (18+(7*hd+0)):=⟨_,rfl⟩;rw [←hZ0] at hzr;have HZ0:=zh hZ0;clear hZ0;obtain ⟨Z1,hZ1⟩:∃ x,x=z1 (18+(7*hd+1)):=⟨_,rfl⟩;rw [←hZ1] at hzr;have HZ1:=zh hZ1;clear hZ1;obtain ⟨Z2,hZ2⟩:∃ x,x=z1 (18+(7*hd+2)):=⟨_,rfl⟩;rw [←hZ2] at hzr;have HZ2:=zh hZ2;clear hZ2;obtain ⟨Z3,hZ3⟩:∃ x,x=z1 (18+(7*hd+3)):=⟨_,rfl⟩;rw [←hZ3] at hzr;have HZ3:=zh hZ3;clear hZ3;obtain ⟨Z4,hZ4⟩:∃ x,x=z1 (18+(7*hd+4)):=⟨_,rfl⟩;rw [←hZ4] at hzr;have HZ4:=zh hZ4;clear hZ4;obtain ⟨Z5,hZ5⟩:∃ x,x=z1 (18+(7*hd+5)):=⟨_,rfl⟩;rw [←hZ5] at hzr;have HZ5:=zh hZ5;clear hZ5;obtain ⟨Z6,hZ6⟩:∃ x,x=z1 (18+(7*hd+6)):=⟨_,rfl⟩;rw [←hZ6] at hzr;have HZ6:=zh hZ6;clear hZ6;have hlow:∀ i∈F1,i<wr.heap.size:=HC.out.low F1 _ _ hx.c;have Hlow:=zh hlow
   have hpsz:wr.heap.size≠sb∧wr.heap.size≠mb∧wr.heap.size≠kb∧wr.heap.size≠b∧wr.heap.size≠bw:=by
    have h9:=hx.l;have h10:=hx.o.size;have h11:=(HBX.out wr hx.o).lt;have h12:=HU1.out.lt b hbU;omega
   have Hpsz:=zh hpsz;have HPY:Hid (wr.heap.size≠kb∧wr.heap.size≠sb∧wr.heap.size≠mb∧wr.heap.size∉F1∧(zV S z1 23).ownBlock≠some wr.heap.size∧w1.heap.size≤wr.heap.size):=zh ⟨hpsz.2.2.1,hpsz.1,hpsz.2.1,fun h=>by have:=hlow _ h;omega,fun h=>by have:=(hx.ag h).2.2.2;omega,hx.o.size⟩;have hA:(wr.drew.alloc (.cells #[.int .i64 0,.int .i64 0,.int .i64 0,.int .i64 0,.int .i64 0,.int .i64 0,.int .i64 0] 45)).heap[wr.heap.size]? =some (.cells #[.int .i64 0,.int .i64 0,.int .i64 0,.int .i64 0,.int .i64 0,.int .i64 0,.int .i64 0] 45 (0,0)):=ZA wr.drew _;have HA:=zh hA;clear hx hum hup hdrop hu hut hc1 hc2 hC2 oB hui hh0 hhd hm hBX hlow hpsz hA
   go_upto_region 5 with fail
   refine zH (by kernel_rfl) (fun w':World=>w'.cell? ⟨kb,0,none⟩=some (.pointer (some ⟨sb,0,none⟩))∧w'.cell? ⟨b,0,none⟩=some (.int .i64 hd)∧w'.rangeAt sb (42+hd*7) [.int .i64 Z0,.int .i64 Z1,.int .i64 Z2,.int .i64 Z3,.int .i64 Z4,.int .i64 Z5,.int .i64 Z6]) 13 ?_;have hS0:(fun w':World=>w'.cell? ⟨kb,0,none⟩=some (.pointer (some ⟨sb,0,none⟩))∧w'.cell? ⟨b,0,none⟩=some (.int .i64 hd)∧w'.rangeAt sb (42+hd*7) [.int .i64 Z0,.int .i64 Z1,.int .i64 Z2,.int .i64 Z3,.int .i64 Z4,.int .i64 Z5,.int .i64 Z6]) wr.drew:=⟨k0,c20,hzr⟩;refine AnyL.tk 0 (h:=?_);refine AnyL.tk 1 (h:=?_);refine AnyL.tk 2 (h:=?_);refine AnyL.tk 3 (h:=?_);refine AnyL.tk 4 (h:=?_);refine AnyL.tk 5 (h:=?_);refine AnyL.tk 6 (h:=?_);refine AnyL.tk 7 (h:=?_);refine AnyL.tk 8 (h:=?_);refine AnyL.tk 9 (h:=?_);refine AnyL.tk 10 (h:=?_)
   refine AnyL.tl 11 rfl (yieldsIf_load_mid (by rfl) _ _ rfl sb (42+hd*7) rfl [.int .i64 Z0,.int .i64 Z1,.int .i64 Z2,.int .i64 Z3,.int .i64 Z4,.int .i64 Z5,.int .i64 Z6] _ (fun w' h=>h.2.2) Tryz.underlying45 rfl (by kernel_rfl)) ?_;refine AnyL.on 12 (h:=fun K hK=>?_);go_simp;have hS1:(fun w':World=>w'.cell? ⟨kb,0,none⟩=some (.pointer (some ⟨sb,0,none⟩))∧w'.cell? ⟨b,0,none⟩=some (.int .i64 hd)∧w'.rangeAt sb (42+hd*7) [.int .i64 Z0,.int .i64 Z1,.int .i64 Z2,.int .i64 Z3,.int .i64 Z4,.int .i64 Z5,.int .i64 Z6]) (wr.drew.alloc (.cells #[.int .i64 0,.int .i64 0,.int .i64 0,.int .i64 0,.int .i64 0,.int .i64 0,.int .i64 0] 45)):=⟨(Only.refl [] _).alloc _ |>.cell hS0.1 (by simp),(Only.refl [] _).alloc _ |>.cell hS0.2.1 (by simp),fun j v hj=>(Only.refl [] _).alloc _ |>.cell (hS0.2.2 j v hj) (by simp)⟩;refine hK _ _ (fun _=>hS1) (fun hKq=>?_);clear hK K hKq
   try simp only [zpt]
   refine AnyL.on 13 (h:=fun K hK=>?_);rw [if_pos (by rfl)];refine ZG _ _ _ rfl wr.heap.size [.int .i64 Z0,.int .i64 Z1,.int .i64 Z2,.int .i64 Z3,.int .i64 Z4,.int .i64 Z5,.int .i64 Z6] rfl rfl HA.out (by kernel_rfl) rfl (by simp [Value.oneCell']) fun w5 h5 o5=>?_
   refine hK _ _ (fun h=>absurd rfl h) (fun hKq=>?_);clear hK K hKq
   try simp only [Act.put]
   refine AnyL.dn (h:=?_);have oP:Only [] wr w5:=(((Only.refl [] wr).drew).alloc _).trans' o5 (fun i hi=> .inr (by simp at hi;omega));have hsc:=Hx.out.1.same HC.out oP;have Hsc:=zh hsc;have Hmz:=zh Hx.out.2;have OP:=zh oP;have cD:w5.cell? ⟨bw,hd*7,none⟩=some (.int .i64 (Dn hd)):=by rw [(HBX.out w5 hsc.o).cell (hd*7) (by omega),Nat.mul_comm,Hq.out hd hd4]
   have c20:=HC2.out w5 hsc.o 0 hd Hut0.out;have HP:=zh h5;have g0:=zA h5 0;have hk0:=hsc.k0;clear hS0 hS1 k0 c1 h5 o5 oP hsc hzr HA Hx;have hskip:Zv 1 (Dn hd)=false→Hid (Scene c F w1 w5 kb sb mb (zV S z1) X n D F1 (ZM mo 1 Dn G ((ZD shape).drop (i+1))++r)∧MotZ c.wr shape G (fun u j=>R u j∨(u<i+1∧j=2)) kz z1):=fun hh=>by
    have e:ZM mo 1 Dn G ((ZD shape).drop i)=ZM mo 1 Dn G ((ZD shape).drop (i+1)):=by
     rw [Hhdrop.out]
     show (if _ then _ else [])++_=_
     rw [Hh0.out,if_neg (by rw [hh];simp)]
     rfl
    have h9:=Hsc.out;rw [e] at h9;refine zh ⟨h9,Hmz.out.skip HS.out (fun j hj=>?_)⟩;have h8:=HRn.out hd hd4 hh;rw [Hui.out] at h8;rw [hj];exact h8
   have Hskip:=zh hskip;clear hskip
   by_cases hD:Dn hd=3
   ·rw [hD] at cD
    go_wp2_with fail
    exact ⟨⟨i+1,F1,z1,by omega,rfl,Hskip.out (by rw [hD];rfl)⟩,by simp [intOf];omega⟩
   ·have bD:decide (Dn hd=3)=false:=decide_eq_false hD;have hZD:Z0=Dn hd:=by
     rw [HZ0.out,Hmz.out.got hd 0 hd4 (by decide) (.inl (HR0.out _)),Nat.add_zero];exact (HDn.out hd hd4 hD).symm
    have HZD:=zh hZD;clear hZD
    go_wp2_with fail
    refine (zBQ _ _).mono ?_;rintro e w6 ⟨rfl,o6⟩;obtain ⟨B0,hB0⟩:∃ b,b=Zv 0 Z0:=⟨_,rfl⟩;obtain ⟨B1,hB1⟩:∃ b,b=Zv 1 Z0:=⟨_,rfl⟩;rw [←hB0,←hB1];have HB0:=zh hB0;have HB1':=zh hB1;clear hB0 hB1;have ix:∀ w,(Instr.index 177 (.agg #[.bool B0,.bool B1]) (.int .i64 1)).run Tryz.prog w=.ok (.bool B1) w:=fun _=>by kernel_rfl
    have Hs6:=zh (Hsc.out.same HC.out o6);have hp6:=o6.heap HP.out (by simp);have hz6:wr.heap.size<w6.heap.size:=lt_of_block hp6;clear g0 hk0 cD c20
    cases B1 with
    |false=>
     clear hp6
     go_wp2_with fail
     have h9:=Hskip.out (by rw [←HZD.out];exact HB1'.out.symm);exact ⟨⟨i+1,F1,z1,by omega,rfl,zh ⟨h9.out.1.same HC.out o6,h9.out.2⟩⟩,by simp [intOf];omega⟩
    |true=>
     have hhas:Zv 1 (Dn hd)=true:=by rw [←HZD.out];exact HB1'.out.symm
     have hr:=Hrg.out hd hd4 hhas;obtain ⟨rf,hrf⟩:∃ x,x=G (7*hd+2):=⟨_,rfl⟩;rw [←hrf] at hr;have g1:=zA hp6 2;have f1:=ZB hp6 2;obtain ⟨w7,hw7⟩:∃ w7,w7=w6.setCell ⟨wr.heap.size,2,none⟩ (.int .i64 0):=⟨_,rfl⟩;have HP7:Hid (w7.heap[wr.heap.size]? =some (.cells #[.int .i64 Z0,.int .i64 Z1,.int .i64 0,.int .i64 Z3,.int .i64 Z4,.int .i64 Z5,.int .i64 Z6] 45 (0,0))):=zh (by rw [hw7];exact zB (i:=2) (.int .i64 0) hp6);have hs7:Scene c F w1 w7 kb sb mb (zV S z1) X n D F1 (ZM mo 1 Dn G ((ZD shape).drop i)++r):=by
      rw [hw7];exact Hs6.out.only (Y:=[wr.heap.size]) HC.out ((Only.refl _ _).setCell (.inl (by simp)) _) (by simp only [List.mem_singleton,forall_eq];exact HPY.out)
     have e:ZM mo 1 Dn G ((ZD shape).drop i)=(if 0<mo then [.elem 8 0 rf mo] else [])++ZM mo 1 Dn G ((ZD shape).drop (i+1)):=by
      rw [Hhdrop.out]
      show (if _ then _ else [])++_=_
      rw [Hh0.out,hhas];simp only [true_and,hrf,Nat.reduceAdd]
     rw [e] at hs7;have Hs7:=zh hs7;have Hhas:=zh hhas;have Hrf:=zh hrf;clear hs7 e hp6 hhas hrf Hskip Hsc Hs6;have Hend:Hid (∀ wx w9 F2,Scene c F w1 wx kb sb mb (zV S z1) X n D F2 (ZM mo 1 Dn G ((ZD shape).drop (i+1))++r)→BlkIn w9 sb 75 106 (zV S (zDg (zHZ Z0 Z1 rf Z3 Z4 Z5 Z6) u z1))→Only [sb] wx w9→
      Scene c F w1 w9 kb sb mb (zV S (zDg (zHZ Z0 Z1 rf Z3 Z4 Z5 Z6) u z1)) X n D F2 (ZM mo 1 Dn G ((ZD shape).drop (i+1))++r)∧MotZ c.wr shape G (fun u j=>R u j∨(u<i+1∧j=2)) kz (zDg (zHZ Z0 Z1 rf Z3 Z4 Z5 Z6) u z1)):=zh (fun wx w9 F2 h1 h2 h3=>by
      refine ⟨h1.newS HC.out h2 (by rw [zI _ _ (by decide),zI _ _ (by decide)]) h3,Hmz.out.step HS.out HG.out Hu.out Hut.out _ (fun j hj hJ=>?_) (fun j hj hJ=>?_)⟩
      ·rw [hJ];exact Hrf.out
      ·obtain rfl|rfl|rfl|rfl|rfl|rfl|rfl:j=0∨j=1∨j=2∨j=3∨j=4∨j=5∨j=6:=by omega
       all_goals first|exact absurd rfl hJ|exact HZ0.out|exact HZ1.out|exact HZ2.out|exact HZ3.out|exact HZ4.out|exact HZ5.out|exact HZ6.out)
     by_cases hmo:0<mo
     ·rw [if_pos hmo] at Hs7;have bmo:decide (0<mo)=true:=decide_eq_true hmo
      go_upto_region 9 with fail
      rw [←hw7];clear hw7 g1 f1 ix;have hS9:(fun w':World=>w'.cell? ⟨kb,1,none⟩=some (.iface c.T c.pv)∧w'.cell? ⟨b,0,none⟩=some (.int .i64 hd)∧w'.cell? ⟨bw,hd*7+2,none⟩=some (.int .i64 (q (7*hd+2)))) w7.drew:=⟨Hs7.out.k1,HC2.out w7 Hs7.out.o 0 hd Hut0.out,by
       show w7.cell? ⟨bw,hd*7+2,none⟩=_
       rw [(HBX.out w7 Hs7.out.o).cell (hd*7+2) (by omega),Nat.mul_comm]⟩
      refine zH (by kernel_rfl) (fun w':World=>w'.cell? ⟨kb,1,none⟩=some (.iface c.T c.pv)∧w'.cell? ⟨b,0,none⟩=some (.int .i64 hd)∧w'.cell? ⟨bw,hd*7+2,none⟩=some (.int .i64 (q (7*hd+2)))) 19 ?_;have hS0:=hS9;refine AnyL.tk 0 (h:=?_);refine AnyL.tk 1 (h:=?_);refine AnyL.tk 2 (h:=?_);refine AnyL.tk 3 (h:=?_);refine AnyL.tk 4 (h:=?_);refine AnyL.tk 5 (h:=?_);refine AnyL.tk 6 (h:=?_);refine AnyL.tk 7 (h:=?_);refine AnyL.tk 8 (h:=?_);refine AnyL.tk 9 (h:=?_);refine AnyL.tk 10 (h:=?_);refine AnyL.tk 11 (h:=?_);refine AnyL.tk 12 (h:=?_);refine AnyL.tk 13 (h:=?_);refine AnyL.tk 14 (h:=?_);refine AnyL.tk 15 (h:=?_);refine AnyL.tk 17 (h:=?_);refine AnyL.on 16 (h:=fun K hK=>?_);go_simp;refine ((Hs7.out.drew HC.out).here.elem HC.out (q (7*hd+2)) (fun hwr=>by
       rw [Hrf.out];exact Hqw.out hwr hd 2 hd4 (by decide) hD)).mono ?_
      rintro e w8 ⟨rfl,F2,g8⟩;have hs8:=(Hs7.out.drew HC.out).trans g8;have hp8:=g8.o.heap (show w7.drew.heap[wr.heap.size]? =_ from HP7.out) (by
       simp only [List.mem_cons,not_or];exact ⟨HPY.out.2.1,HPY.out.2.2.1,HPY.out.2.2.2.1⟩)
      have hpF2:wr.heap.size∉F2:=fun h=>(g8.n _ h).elim HPY.out.2.2.2.1 (fun h=>by
       have h7:wr.heap.size<w7.drew.heap.size:=lt_of_block (show w7.drew.heap[wr.heap.size]? =_ from HP7.out);omega)
      have hS10:(fun w':World=>w'.cell? ⟨kb,1,none⟩=some (.iface c.T c.pv)∧w'.cell? ⟨b,0,none⟩=some (.int .i64 hd)∧w'.cell? ⟨bw,hd*7+2,none⟩=some (.int .i64 (q (7*hd+2)))) w8:=⟨hs8.k1,HC2.out w8 hs8.o 0 hd Hut0.out,by
       show w8.cell? ⟨bw,hd*7+2,none⟩=_
       rw [(HBX.out w8 hs8.o).cell (hd*7+2) (by omega),Nat.mul_comm]⟩
      have g1:=zA hp8 2;have f1:=ZB hp8 2;have Hs8:=zh hs8;have HP8:=zh hp8;have HF2:=zh hpF2;clear hs8 hp8 hpF2 g8;refine hK _ _ (fun _=>hS10) (fun hKq=>?_);clear hK K hKq
      try simp only [zpt]
      refine AnyL.on 18 (h:=fun K hK=>?_);go_simp;refine hK _ _ (fun _=>hS10) (fun hKq=>?_);clear hK K hKq
      try simp only [zpt]
      refine AnyL.on 19 (h:=fun K hK=>?_);go_simp;refine hK _ _ (fun h=>absurd rfl h) (fun hKq=>?_);clear hK K hKq
      try simp only [zpt]
      refine AnyL.dn (h:=?_);obtain ⟨w9,hw9⟩:∃ w9,w9=w8.setCell ⟨wr.heap.size,2,none⟩ (.int .i64 rf):=⟨_,rfl⟩;rw [←hw9];have HP9:Hid (w9.heap[wr.heap.size]? =some (.cells #[.int .i64 Z0,.int .i64 Z1,.int .i64 rf,.int .i64 Z3,.int .i64 Z4,.int .i64 Z5,.int .i64 Z6] 45 (0,0))):=zh (by rw [hw9];exact zB (i:=2) (.int .i64 rf) HP8.out);have Hs9:Hid (Scene c F w1 w9 kb sb mb (zV S z1) X n D F2 (ZM mo 1 Dn G ((ZD shape).drop (i+1))++r)):=zh (by
       rw [hw9];exact Hs8.out.only (Y:=[wr.heap.size]) HC.out ((Only.refl _ _).setCell (.inl (by simp)) _) (by
        simp only [List.mem_singleton,forall_eq];exact ⟨HPY.out.1,HPY.out.2.1,HPY.out.2.2.1,HF2.out,HPY.out.2.2.2.2.1,HPY.out.2.2.2.2.2⟩))
      clear hw9 g1 f1 hS0 hS9 hS10 Hs8 HP8;have k0:=Hs9.out.k0;have p0:=zA HP9.out 0;have p1:=zA HP9.out 1;have p2:=zA HP9.out 2;have p3:=zA HP9.out 3;have p4:=zA HP9.out 4;have p5:=zA HP9.out 5;have p6:=zA HP9.out 6
      go_wp2_with fail
      refine (zFn (z:=z1) (q:=zHZ Z0 Z1 rf Z3 Z4 Z5 Z6) Hs9.out.k Hs9.out.s (HC2.out _ Hs9.out.o) Hhup.out Hm.out.symm huL Hs9.out.ks hbsb).mono ?_;rintro e wz ⟨rfl,h2,h3⟩;have h9:=zh (Hend.out _ wz _ Hs9.out h2 h3);clear p0 p1 p2 p3 p4 p5 p6 k0 h2 h3
      go_wp2_with fail
      exact ⟨⟨i+1,_,_,by omega,rfl,h9⟩,by simp [intOf];omega⟩
     ·rw [if_neg hmo] at Hs7;have bmo:decide (0<mo)=false:=decide_eq_false hmo;have hr0:rf=0:=by omega
      subst hr0
      go_upto_region 10 with fail
      rw [←hw7];clear hw7 g1 f1 ix;have k0:=Hs7.out.k0;have p0:=zA HP7.out 0;have p1:=zA HP7.out 1;have p2:=zA HP7.out 2;have p3:=zA HP7.out 3;have p4:=zA HP7.out 4;have p5:=zA HP7.out 5;have p6:=zA HP7.out 6
      go_wp2_with fail
      refine (zFn (z:=z1) (q:=zHZ Z0 Z1 0 Z3 Z4 Z5 Z6) Hs7.out.k Hs7.out.s (HC2.out _ Hs7.out.o) Hhup.out Hm.out.symm huL Hs7.out.ks hbsb).mono ?_;rintro e w9 ⟨rfl,h2,h3⟩;have h9:=zh (Hend.out _ w9 _ Hs7.out h2 h3);clear p0 p1 p2 p3 p4 p5 p6 k0 h2 h3
      go_wp2_with fail
      exact ⟨⟨i+1,_,_,by omega,rfl,h9⟩,by simp [intOf];omega⟩
  ·obtain rfl:i=LL:=by omega
   go_wp2_with fail
   go_end0
   refine ⟨rfl,F1,z1,?_,?_⟩
   ·have h9:=Hx.out.1;rw [List.drop_of_length_le (by rw [←HLL.out];exact Nat.le_refl _)] at h9;exact Hs1.out.trans h9
   ·refine Hx.out.2.mono (fun u j hul h=>h.elim .inl (fun h=> .inr ⟨by rw [HLL.out];exact hul,h⟩)) HS.out
def zOf (k:Int):Nat→Int:=fun i=>if i=0 then k else 0
def zJW (ds:List DoneP) (f wide n:Nat) (sp:Bool):Nat→Int:=zND ds f wide n (zOf 5) sp
def zJl (ds:List DoneP) (f wide n:Nat):Nat→Int:=zK6 (zJk (nbA ds f wide n (zOf 3) 0 0) (nbB ds f wide n (zOf 3) 0 0) (nbC ds f wide n (zOf 3) 0 0 2))
theorem zKc (k:Int) (z:Nat→Int) (list:Nat):Alike list (zw k 0 z) (zOf k):=by
 have h0:zw k 0 z 0=k:=rfl;have hn:∀ p,p<4→¬ zw k 0 z (47+p)<zw k 0 z 46:=fun p hp=>by
  obtain rfl|rfl|rfl|rfl:p=0∨p=1∨p=2∨p=3:=by omega
  all_goals exact Int.lt_irrefl 0
 have hm:∀ p,¬ zOf k (47+p)<zOf k 46:=fun p=>by
  unfold zOf;rw [if_neg (by omega),if_neg (by omega)];exact Int.lt_irrefl 0
 exact ⟨by rw [h0];rfl,fun p hp=>⟨fun h=>absurd h (hn p hp),fun h=>absurd h (hm p)⟩,fun p hp h=>absurd h (hn p hp),fun p hp h=>absurd h (hn p hp),fun p hp h=>absurd h (hn p hp),fun p hp h=>absurd h (hn p hp)⟩
theorem zD0 (ds:List DoneP) (f wide n:Nat) (z:Nat→Int) (sp:Bool):zND ds f wide n (zw 5 0 z) sp=zJW ds f wide n sp:=by
 have h0:=(zKc 5 z 0).nb ds f wide n 0 2;have h1:=(zKc 5 z 1).nb ds f wide n 0 2;unfold zJW zND;rw [h0.1,h0.2.1,h0.2.2,h1.1,h1.2.1,h1.2.2]
theorem zHo (ds:List DoneP) (f wide n:Nat) (z:Nat→Int):zK6 (zJk (nbA ds f wide n (zw 3 0 z) 0 0) (nbB ds f wide n (zw 3 0 z) 0 0) (nbC ds f wide n (zw 3 0 z) 0 0 2))=zJl ds f wide n:=by
 have h0:=(zKc 3 z 0).nb ds f wide n 0 2;unfold zJl;rw [h0.1,h0.2.1,h0.2.2]
def zAv (t:Int) (ds:List DoneP) (f wide n:Nat) (sp:Bool):Nat→Int:=if t=0 then zJl ds f wide n else zJW ds f wide n sp
theorem zEU (S:Nat→Value) (z:Nat→Int) (i:Nat) (v:Value) (hi:i<24):upd (zV S z) i v=zV (upd S i v) z:=by
 funext j
 unfold upd zV;dsimp only
 by_cases h:j=i
 ·rw [if_pos h,if_pos (by omega),if_pos h]
 ·rw [if_neg h]
  split<;>first|rfl|rw [if_neg h]
theorem zIF {c:Cod} {F0 F:List Nat} {w0 w:World} {kb sb mb n f wide:Nat} {S X:Nat→Value} {ds:List DoneP} {r:List Ask} {d:DoneP} {z:Nat→Int} {t kind:Int} {sp:Bool} (h:Scene c F0 w0 w kb sb mb (zV S z) X n (zG ds) F r) (hc:c.Ok)
 (hS0:S 0=.int .i64 f) (h21:S 21=.int .i64 wide) (bf:f≤1000000) (bw:1≤wide∧wide≤1000000) (bn:n≤1000000) (hds:ds.length=n) (h2:S 2=.int .i64 t) (h6:S 6=.bool sp) (hk:(kind=3∧(t=0∨t=1))∨(kind=5∧t=1))
 (h0:X 0=.int .i64 kind) (h48:X 48=.int .i64 d.cbp) (hmd:∀ i,i<16→X (2+i)=.int .i64 (d.modes i)) (hdk:d.kind=kind) (hdp:∀ i,i<28→d.parts i=zAv t ds f wide n sp (i%7)):
 Calls Tryz.prog 65 #[.pointer (some ⟨kb,0,none⟩)] w fun e w'=>e=.returned (.tuple #[])∧∃ v' z',Ran c F0 w0 w' sb mb (zV (upd S 23 v') z') (zAz 20 28 (fun i=> .int .i64 (zAv t ds f wide n sp (i%7))) X) (n+1) (zG ds++d.cells) F r (S 23).ownBlock.toList:=by
 have k0:=h.k0;have k2:=h.k2;have m0:w.cell? ⟨mb,0,none⟩=some (.int .i64 kind):=by rw [h.m.cell 0 (by decide),h0]
 have s2:w.cell? ⟨sb,2,none⟩=some (.int .i64 t):=by rw [h.s.cell 2 (by decide),zI _ _ (by decide),h2]
 have hmot:MotIn w sb (zV S z) f wide n ds z:=⟨h.st (by rw [zI _ _ (by decide)];exact hS0) (by rw [zI _ _ (by decide)];exact h21) bf bw bn,hds,fun i _=>zB4 S z i⟩;obtain ⟨pq,hpq⟩:∃ p,p=zAv t ds f wide n sp:=⟨_,rfl⟩;have hfind:∀ K:Int,(K=3∨K=5)→∀ wx w',(wx=w)→BlkIn w' sb 75 106 (zV S (zw K 0 z))→Only [sb] wx w'→Scene c F0 w0 w' kb sb mb (zV S (zw K 0 z)) X n (zG ds) F r:=fun K _ wx w' hw hb ho=>by
  subst hw;exact h.newS hc hb (by rw [zI _ _ (by decide),zI _ _ (by decide)]) ho
 have hend:∀ (wx:World) (zx:Nat→Int),Scene c F0 w0 wx kb sb mb (zV S zx) (zAz 20 28 (fun i=> .int .i64 (pq (i%7))) X) n (zG ds) F r→Calls Tryz.prog 104 #[.pointer (some ⟨sb,0,none⟩),.pointer (some ⟨mb,0,none⟩)] wx fun e w'=>e=.returned (.tuple #[])∧∃ v',Ran c F0 w0 w' sb mb (zV (upd S 23 v') zx) (zAz 20 28 (fun i=> .int .i64 (pq (i%7))) X) (n+1) (zG ds++d.cells) F r (S 23).ownBlock.toList:=fun wx zx hs=>by
  refine (hs.keep hc (d:=d) ?_ ?_ ?_ ?_ bn).mono ?_
  ·unfold zAz;rw [if_neg (by omega),h0,hdk]
  ·unfold zAz;rw [if_neg (by omega),h48]
  ·intro i hi;unfold zAz;rw [if_neg (by omega),hmd i hi]
  ·intro i hi;unfold zAz;rw [if_pos (by omega),show 20+i-20=i by omega,hpq,hdp i hi]
  ·rintro e w' ⟨rfl,v',h1⟩;refine ⟨rfl,v',?_⟩;rw [zEU _ _ _ _ (by decide)] at h1;rw [zI _ _ (by decide)] at h1;exact h1
 rw [←hpq];have HE:=zh hend;have HF:=zh hfind;have HM:=zh hmot;have HC:=zh hc;have HX:=zh h.m;have hlt:=h.m.lt;have Hpq:=zh hpq;have H6:=zh h6;have Hm0:=zh h0;clear hend hfind hmot h hc hpq h6 hS0 h21 bf bw bn hds h2 h0 h48 hmd hdk hdp
 go_enter Tryz.func65,Tryz.ntmps65
 rcases hk with ⟨rfl,rfl|rfl⟩|⟨rfl,rfl⟩
 ·go_wp2_with fail
  refine (zIu HM.out).mono ?_;rintro e w1 ⟨rfl,h1,o1⟩;rw [zHo,show zJl ds f wide n=pq by rw [Hpq.out];rfl];have hs1:=HF.out 3 (.inl rfl) w w1 rfl h1 o1;have hp:=ZA w1 (.cells #[.int .i64 (pq 0),.int .i64 (pq 1),.int .i64 (pq 2),.int .i64 (pq 3),.int .i64 (pq 4),.int .i64 (pq 5),.int .i64 (pq 6)] 45);have oP:Hid (Only [] w1 (w1.alloc (.cells #[.int .i64 (pq 0),.int .i64 (pq 1),.int .i64 (pq 2),.int .i64 (pq 3),.int .i64 (pq 4),.int .i64 (pq 5),.int .i64 (pq 6)] 45))):=zh ((Only.refl _ w1).alloc _);have hs2:=hs1.same HC.out oP.out;have p0:=zA hp 0;have p1:=zA hp 1;have p2:=zA hp 2;have p3:=zA hp 3;have p4:=zA hp 4;have p5:=zA hp 5;have p6:=zA hp 6;clear m0 s2 k0 k2;have k0:=hs2.k0;have k2:=hs2.k2;have HM2:=zh hs2.m;have Hs2:=zh hs2;clear hp oP hs1 hs2 h1 o1
  have hy:Value.agg #[.int .i64 (pq 0),.int .i64 (pq 1),.int .i64 (pq 2),.int .i64 (pq 3),.int .i64 (pq 4),.int .i64 (pq 5),.int .i64 (pq 6),.int .i64 (pq 0),.int .i64 (pq 1),.int .i64 (pq 2),.int .i64 (pq 3),.int .i64 (pq 4),.int .i64 (pq 5),.int .i64 (pq 6),.int .i64 (pq 0),.int .i64 (pq 1),.int .i64 (pq 2),.int .i64 (pq 3),.int .i64 (pq 4),.int .i64 (pq 5),.int .i64 (pq 6),.int .i64 (pq 0),.int .i64 (pq 1),.int .i64 (pq 2),.int .i64 (pq 3),.int .i64 (pq 4),.int .i64 (pq 5),.int .i64 (pq 6)]=.agg (fnA 28 (fun i=> .int .i64 (pq (i%7)))):=rfl;have HY:=zh hy;have hi28:(Tryz.prog.info? 46).map (·.size)=some 28:=by kernel_rfl
  have HI28:=zh hi28;have HFIT:Hid (20+28≤483):=zh (by decide);have HONE:Hid (∀ i:Nat,(Value.int .i64 (pq (i%7))).oneCell'=true):=zh (fun _=>rfl);clear hi28;clear hy;unfold zCP
  go_wp2_with (refine zAQ 38 rfl ?_)
  refine ⟨?_⟩
  (refine wpList_step (fun K hK=>?_);rw [if_pos (by rfl)];go_simp;refine hK _ _ ?_;clear hK K)
  refine Zj rfl _ _ _ rfl mb 20 28 483 (fun i=> .int .i64 (pq (i%7))) X rfl HY.out HM2.out HI28.out HFIT.out HONE.out fun w2 h2 o2=>?_
  have hs3:=Hs2.out.newM HC.out h2 o2;simp only [Act.put];clear p0 p1 p2 p3 p4 p5 p6;have k0:=hs3.k0;have k2:=hs3.k2;have m0:w2.cell? ⟨mb,0,none⟩=some (.int .i64 3):=by
   rw [hs3.m.cell 0 (by decide)];unfold zAz;rw [if_neg (by omega),Hm0.out]
  have Hs3:=zh hs3;clear hs3 h2 o2 Hs2 HM2
  go_wp2_with fail
  refine (HE.out _ _ Hs3.out).mono ?_;rintro e w3 ⟨rfl,v',h9⟩;have H9:=zh h9;clear h9;go_wp2;go_end0;exact ⟨rfl,v',_,H9.out⟩
 ·go_wp2_with fail
  refine (zC1 HM.out H6.out).mono ?_;rintro e w1 ⟨rfl,h1,o1⟩;rw [zD0,show zJW ds f wide n sp=pq by rw [Hpq.out];rfl];have hs1:=HF.out 5 (.inr rfl) w w1 rfl h1 o1;have hp:=ZA w1 (.cells #[.int .i64 (pq 0),.int .i64 (pq 1),.int .i64 (pq 2),.int .i64 (pq 3),.int .i64 (pq 4),.int .i64 (pq 5),.int .i64 (pq 6)] 45);have oP:Hid (Only [] w1 (w1.alloc (.cells #[.int .i64 (pq 0),.int .i64 (pq 1),.int .i64 (pq 2),.int .i64 (pq 3),.int .i64 (pq 4),.int .i64 (pq 5),.int .i64 (pq 6)] 45))):=zh ((Only.refl _ w1).alloc _);have hs2:=hs1.same HC.out oP.out;have p0:=zA hp 0;have p1:=zA hp 1;have p2:=zA hp 2;have p3:=zA hp 3;have p4:=zA hp 4;have p5:=zA hp 5;have p6:=zA hp 6;clear m0 s2 k0 k2;have k0:=hs2.k0;have k2:=hs2.k2;have HM2:=zh hs2.m;have Hs2:=zh hs2;clear hp oP hs1 hs2 h1 o1
  have hy:Value.agg #[.int .i64 (pq 0),.int .i64 (pq 1),.int .i64 (pq 2),.int .i64 (pq 3),.int .i64 (pq 4),.int .i64 (pq 5),.int .i64 (pq 6),.int .i64 (pq 0),.int .i64 (pq 1),.int .i64 (pq 2),.int .i64 (pq 3),.int .i64 (pq 4),.int .i64 (pq 5),.int .i64 (pq 6),.int .i64 (pq 0),.int .i64 (pq 1),.int .i64 (pq 2),.int .i64 (pq 3),.int .i64 (pq 4),.int .i64 (pq 5),.int .i64 (pq 6),.int .i64 (pq 0),.int .i64 (pq 1),.int .i64 (pq 2),.int .i64 (pq 3),.int .i64 (pq 4),.int .i64 (pq 5),.int .i64 (pq 6)]=.agg (fnA 28 (fun i=> .int .i64 (pq (i%7)))):=rfl;have HY:=zh hy;have hi28:(Tryz.prog.info? 46).map (·.size)=some 28:=by kernel_rfl
  have HI28:=zh hi28;have HFIT:Hid (20+28≤483):=zh (by decide);have HONE:Hid (∀ i:Nat,(Value.int .i64 (pq (i%7))).oneCell'=true):=zh (fun _=>rfl);clear hi28;clear hy;unfold zCP
  go_wp2_with (refine zAQ 62 rfl ?_)
  refine ⟨?_⟩
  (refine wpList_step (fun K hK=>?_);rw [if_pos (by rfl)];go_simp;refine hK _ _ ?_;clear hK K)
  refine Zj rfl _ _ _ rfl mb 20 28 483 (fun i=> .int .i64 (pq (i%7))) X rfl HY.out HM2.out HI28.out HFIT.out HONE.out fun w2 h2 o2=>?_
  have hs3:=Hs2.out.newM HC.out h2 o2;simp only [Act.put];clear p0 p1 p2 p3 p4 p5 p6;have k0:=hs3.k0;have k2:=hs3.k2;have m0:w2.cell? ⟨mb,0,none⟩=some (.int .i64 3):=by
   rw [hs3.m.cell 0 (by decide)];unfold zAz;rw [if_neg (by omega),Hm0.out]
  have Hs3:=zh hs3;clear hs3 h2 o2 Hs2 HM2
  go_wp2_with fail
  refine (HE.out _ _ Hs3.out).mono ?_;rintro e w3 ⟨rfl,v',h9⟩;have H9:=zh h9;clear h9;go_wp2;go_end0;exact ⟨rfl,v',_,H9.out⟩
 ·go_wp2_with fail
  refine (zC1 HM.out H6.out).mono ?_;rintro e w1 ⟨rfl,h1,o1⟩;rw [zD0,show zJW ds f wide n sp=pq by rw [Hpq.out];rfl];have hs1:=HF.out 5 (.inr rfl) w w1 rfl h1 o1;have hp:=ZA w1 (.cells #[.int .i64 (pq 0),.int .i64 (pq 1),.int .i64 (pq 2),.int .i64 (pq 3),.int .i64 (pq 4),.int .i64 (pq 5),.int .i64 (pq 6)] 45);have oP:Hid (Only [] w1 (w1.alloc (.cells #[.int .i64 (pq 0),.int .i64 (pq 1),.int .i64 (pq 2),.int .i64 (pq 3),.int .i64 (pq 4),.int .i64 (pq 5),.int .i64 (pq 6)] 45))):=zh ((Only.refl _ w1).alloc _);have hs2:=hs1.same HC.out oP.out;have p0:=zA hp 0;have p1:=zA hp 1;have p2:=zA hp 2;have p3:=zA hp 3;have p4:=zA hp 4;have p5:=zA hp 5;have p6:=zA hp 6;clear m0 s2 k0 k2;have k0:=hs2.k0;have k2:=hs2.k2;have HM2:=zh hs2.m;have Hs2:=zh hs2;clear hp oP hs1 hs2 h1 o1
  have hy:Value.agg #[.int .i64 (pq 0),.int .i64 (pq 1),.int .i64 (pq 2),.int .i64 (pq 3),.int .i64 (pq 4),.int .i64 (pq 5),.int .i64 (pq 6),.int .i64 (pq 0),.int .i64 (pq 1),.int .i64 (pq 2),.int .i64 (pq 3),.int .i64 (pq 4),.int .i64 (pq 5),.int .i64 (pq 6),.int .i64 (pq 0),.int .i64 (pq 1),.int .i64 (pq 2),.int .i64 (pq 3),.int .i64 (pq 4),.int .i64 (pq 5),.int .i64 (pq 6),.int .i64 (pq 0),.int .i64 (pq 1),.int .i64 (pq 2),.int .i64 (pq 3),.int .i64 (pq 4),.int .i64 (pq 5),.int .i64 (pq 6)]=.agg (fnA 28 (fun i=> .int .i64 (pq (i%7)))):=rfl;have HY:=zh hy;have hi28:(Tryz.prog.info? 46).map (·.size)=some 28:=by kernel_rfl
  have HI28:=zh hi28;have HFIT:Hid (20+28≤483):=zh (by decide);have HONE:Hid (∀ i:Nat,(Value.int .i64 (pq (i%7))).oneCell'=true):=zh (fun _=>rfl);clear hi28;clear hy;unfold zCP
  go_wp2_with (refine zAQ 62 rfl ?_)
  refine ⟨?_⟩
  (refine wpList_step (fun K hK=>?_);rw [if_pos (by rfl)];go_simp;refine hK _ _ ?_;clear hK K)
  refine Zj rfl _ _ _ rfl mb 20 28 483 (fun i=> .int .i64 (pq (i%7))) X rfl HY.out HM2.out HI28.out HFIT.out HONE.out fun w2 h2 o2=>?_
  have hs3:=Hs2.out.newM HC.out h2 o2;simp only [Act.put];clear p0 p1 p2 p3 p4 p5 p6;have k0:=hs3.k0;have k2:=hs3.k2;have m0:w2.cell? ⟨mb,0,none⟩=some (.int .i64 5):=by
   rw [hs3.m.cell 0 (by decide)];unfold zAz;rw [if_neg (by omega),Hm0.out]
  have Hs3:=zh hs3;clear hs3 h2 o2 Hs2 HM2
  go_wp2_with fail
  refine (HE.out _ _ Hs3.out).mono ?_;rintro e w3 ⟨rfl,v',h9⟩;have H9:=zh h9;clear h9;go_wp2;go_end0;exact ⟨rfl,v',_,H9.out⟩
theorem zHf {c:Cod} {F:List Nat} {w:World} {kb sb mb n f wide:Nat} {S X:Nat→Value} {ds:List DoneP} {r:List Ask} {z:Nat→Int} {t x0:Int} {sp:Bool} {d:DoneP} (hc:c.Ok) (h:Scene c F w w kb sb mb (zV S z) X n (zG ds) F (.elem 0 (zAH (fun k=>k != 3) ds f wide n) 1 1::r))
 (h0:S 0=.int .i64 f) (h21:S 21=.int .i64 wide) (bf:f≤1000000) (bwd:1≤wide∧wide≤1000000) (bn:n≤1000000) (hds:ds.length=n) (h2:S 2=.int .i64 t) (ht:t=0∨t=1) (h6:S 6=.bool sp)
 (hX0:X 0=.int .i64 x0) (hx0:c.wr=true→x0=3) (h48:X 48=.int .i64 0) (hmd:∀ i,i<16→X (2+i)=.int .i64 0)
 (hd:d.kind=3∧d.cbp=0∧(∀ i,i<16→d.modes i=0)∧∀ i,i<28→d.parts i=zAv t ds f wide n sp (i%7)):
 Calls Tryz.prog 37 #[.pointer (some ⟨kb,0,none⟩)] w fun e w'=>e=.returned (.tuple #[])∧∃ (v':Value) (z':Nat→Int) (F':List Nat),Ran c F w w' sb mb (zV (upd S 23 v') z') (zAz 20 28 (fun i=> .int .i64 (zAv t ds f wide n sp (i%7))) (upd X 0 (.int .i64 3))) (n+1) (zG (ds++[d])) F' r (S 23).ownBlock.toList:=by
 have mE:=hc.mE;have eE:=hc.eE;have HC:=zh hc;have HS:=zh h;have H0:=zh h0;have H21:=zh h21;have Hbd:=zh (And.intro bf (And.intro bwd bn));have Hds:=zh hds;have H2:=zh h2;have Ht:=zh ht;have H6:=zh h6;have HX0:=zh hX0;have Hx0:=zh hx0;have H48:=zh h48;have Hmd:=zh hmd;have Hd:=zh hd;have k0:=h.k0;have k2:=h.k2;have s2:w.cell? ⟨sb,2,none⟩=some (.int .i64 t):=by rw [h.s.cell 2 (by decide),zI _ _ (by decide),h2]
 have bt:(t != 2)=true:=by rcases ht with rfl|rfl<;>rfl
 clear h hc h0 h21 bf bwd bn hds h2 h6 hX0 hx0 h48 hmd ht hd
 go_enter Tryz.func37,Tryz.ntmps37
 go_wp2_with fail
 refine (zGT (A:=fun k=>k != 3) (HS.out.st (by rw [zI _ _ (by decide)];exact H0.out) (by rw [zI _ _ (by decide)];exact H21.out) Hbd.out.1 Hbd.out.2.1 Hbd.out.2.2) Hds.out (fun args w=>ZZ Tryz.func63 (by kernel_rfl) (by kernel_rfl) args w) (fun g o k w hh=>zJp g o k w hh)).mono ?_;rintro e w1 ⟨rfl,ho1⟩;have hs1:=HS.out.same HC.out ho1;obtain ⟨cn,hcn⟩:∃ cn,cn=zAH (fun k=>k != 3) ds f wide n:=⟨_,rfl⟩;rw [←hcn] at hs1 ⊢;have HS1:=zh hs1;have hS3:(fun w':World=>w'.cell? ⟨kb,1,none⟩=some (.iface c.T c.pv)∧w'.cell? ⟨mb,0,none⟩=some (.int .i64 x0)) w1.drew:=⟨hs1.k1,by
  show w1.cell? ⟨mb,0,none⟩=_
  rw [hs1.m.cell 0 (by decide),HX0.out]⟩
 clear hs1 ho1 hcn k0 k2 s2
 go_upto_region 3 with fail
 refine zH (by kernel_rfl) (fun w':World=>w'.cell? ⟨kb,1,none⟩=some (.iface c.T c.pv)∧w'.cell? ⟨mb,0,none⟩=some (.int .i64 x0)) 14 ?_;have hS0:=hS3;refine AnyL.tk 0 (h:=?_);refine AnyL.tk 1 (h:=?_);refine AnyL.tk 2 (h:=?_);refine AnyL.tk 3 (h:=?_);refine AnyL.tk 4 (h:=?_);refine AnyL.tk 5 (h:=?_);refine AnyL.tk 6 (h:=?_);refine AnyL.tk 7 (h:=?_);refine AnyL.tk 8 (h:=?_);refine AnyL.tk 9 (h:=?_);refine AnyL.tk 11 (h:=?_);refine AnyL.tk 12 (h:=?_);refine AnyL.on 10 (h:=fun K hK=>?_);go_simp;refine (zBz _ _).mono ?_;rintro e w3 ⟨rfl,rfl⟩;refine hK _ _ (fun _=>hS0) (fun hKq=>?_);clear hK K hKq
 try simp only [zpt]
 refine AnyL.on 13 (h:=fun K hK=>?_);go_simp;refine ((HS1.out.drew HC.out).here.elem HC.out (zl (x0==3)) (fun hw=>by rw [Hx0.out hw];rfl)).mono ?_;rintro e w4 ⟨rfl,F1,g0⟩;have g1:=(HS1.out.drew HC.out).trans g0;have hSb:(fun w':World=>w'.cell? ⟨kb,1,none⟩=some (.iface c.T c.pv)∧w'.cell? ⟨mb,0,none⟩=some (.int .i64 x0)) w4:=⟨g1.k1,by rw [g1.m.cell 0 (by decide),HX0.out]⟩;have G1:=zh g1;clear g0 g1;refine hK _ _ (fun _=>hSb) (fun hKq=>?_);clear hK K hKq
 try simp only [zpt]
 refine AnyL.on 14 (h:=fun K hK=>?_);go_simp;refine hK _ _ (fun h=>absurd rfl h) (fun hKq=>?_);clear hK K hKq
 try simp only [zpt]
 refine AnyL.dn (h:=?_);clear hS0 hS3 hSb HS1 HS;have k2:=G1.out.k2;have k0:=G1.out.k0;have z0:=G1.out.m.free 0;have c0:=G1.out.m.cell 0 (by decide)
 go_wp2_with fail
 have hsM:=G1.out.setM HC.out 0 (.int .i64 3);refine (zIF (d:=d) hsM HC.out H0.out H21.out Hbd.out.1 Hbd.out.2.1 Hbd.out.2.2 Hds.out H2.out H6.out (.inl ⟨rfl,Ht.out⟩) (ZK _ _ _) (by rw [ZN _ _ (by decide),H48.out,Hd.out.2.1]) (fun i hi=>by rw [ZN _ _ (by omega),Hmd.out i hi,Hd.out.2.2.1 i hi]) Hd.out.1 Hd.out.2.2.2).mono ?_;rintro e w5 ⟨rfl,v',z',h9⟩;have H9:=zh h9;clear h9 hsM k0 k2 z0 c0 G1;go_wp2
 (try simp only [Exit.inBlock,Exit.then]);refine bodyPost_ret (results_none rfl _ _ _) rfl ?_
 refine ⟨rfl,v',z',F1,?_⟩;rw [zB6];exact H9.out
end Go.Proofs.YtcppbdlmcbjmeaaGreatDoor
