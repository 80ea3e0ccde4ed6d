/- Lemmas that the law needs, part 24. -/
import Derived.Test.YtcppbdlmcbjmeaaGreatDoorK22
import Derived.Test.YtcppbdlmcbjmeaaGreatDoorK23
set_option maxHeartbeats 12800000
set_option maxRecDepth 100000
namespace Go.Proofs.YtcppbdlmcbjmeaaGreatDoor
open Go.RowKit
theorem zJd {c:Cod} {F:List Nat} {w:World} {kb sb mb n f wide:Nat} {S X:Nat→Value} {ds:List DoneP} {r:List Ask} {z x y G:Nat→Int} {t a0 a1 shape x1:Int} {sp:Bool} {B0 B1:Nat→Nat→Int×Int} (hc:c.Ok)
 (h:Scene c F w w kb sb mb (zV S z) X n (zG ds) F (zE1 t shape a0 a1 B0 B1 (fun p=>y (20+7*p)) G++r))
 (h0:S 0=.int .i64 f) (h21:S 21=.int .i64 wide) (bf:f≤1000000) (bwd:1≤wide∧wide≤1000000) (bn:n≤1000000) (hds:ds.length=n) (h2:S 2=.int .i64 t) (ht:t=0∨t=1) (h6:S 6=.bool sp) (h7:S 7=.int .i64 a0) (h8:S 8=.int .i64 a1) (ba:(0≤a0∧a0≤8)∧0≤a1∧a1≤8)
 (hs:0≤shape∧shape≤3) (hX1:X 1=.int .i64 x1) (hx1:c.wr=true→x1=shape) (hX:∀ i,i<28→X (20+i)=.int .i64 (x i)) (hxw:c.wr=true→∀ i,i<28→x i=y (20+i)) (hxr:c.wr=false→∀ i,i<28→x i=0)
 (hD0:t=0→∀ p,p<4→y (20+7*p)=0) (hG:G=gOf y (zJW ds f wide n sp)) (hU:zHc shape (fun i=>y (20+i))) (hp:∀ p,p<4→y (20+7*p)≠3→zFW y a0 a1 p) (hyb:∀ i,i<28→-1000≤y (20+i)∧y (20+i)≤1000)
 (hB0:∀ k first,B0 k first=byN ds f wide n (zFX shape G k) shape 0 k first (G (7*first+1))) (hB1:∀ k first,B1 k first=byN ds f wide n (zFX shape G k) shape 1 k first (G (7*first+2)))
 (hBr0:∀ k first,first<4→Zv 0 (y (20+7*first))=true→(-1000≤(B0 k first).1∧(B0 k first).1≤1000)∧-1000≤(B0 k first).2∧(B0 k first).2≤1000)
 (hBr1:∀ k first,first<4→Zv 1 (y (20+7*first))=true→(-1000≤(B1 k first).1∧(B1 k first).1≤1000)∧-1000≤(B1 k first).2∧(B1 k first).2≤1000):
 Calls Tryz.prog 71 #[.pointer (some ⟨kb,0,none⟩)] w fun e w'=>e=.returned (.tuple #[])∧∃ (F':List Nat) (z':Nat→Int),Scene c F w w' kb sb mb (zV S z') (zAz 20 28 (fun i=> .int .i64 (G i)) (upd X 1 (.int .i64 shape))) n (zG ds) F' r:=by
 have mE:=hc.mE;have eE:=hc.eE;have HC:=zh hc;have Hs0:=zh h;have H0:=zh h0;have H21:=zh h21;have Hbd:=zh (And.intro bf (And.intro bwd bn));have Hds:=zh hds;have H2:=zh h2;have H6:=zh h6;have H7:=zh h7;have H8:=zh h8;have Ba:=zh ba;have HS:=zh hs;have HX1:=zh hX1;have Hx1:=zh hx1;have HX:=zh hX;have Hxw:=zh hxw;have Hxr:=zh hxr;have HD0:=zh hD0;have HG:=zh hG;have HU:=zh hU;have Hp:=zh hp;have HB0:=zh hB0;have HB1:=zh hB1;have HBr0:=zh hBr0;have HBr1:=zh hBr1;have Ht:=zh ht;have Hyb:=zh hyb;have k0:=h.k0;have k2:=h.k2;have hS1:(fun w':World=>w'.cell? ⟨kb,1,none⟩=some (.iface c.T c.pv)∧w'.cell? ⟨mb,1,none⟩=some (.int .i64 x1)) w.drew:=⟨h.k1,by
  show w.cell? ⟨mb,1,none⟩=_
  rw [h.m.cell 1 (by decide),hX1]⟩
 clear h hc h0 h21 bf bwd bn hds h2 h6 h7 h8 ba hs hX1 hx1 hX hxw hxr hD0 hG hU hp hB0 hB1 hBr0 hBr1 ht hyb
 go_enter Tryz.func71,Tryz.ntmps71
 go_upto_region 1 with fail
 refine zH (by kernel_rfl) (fun w':World=>w'.cell? ⟨kb,1,none⟩=some (.iface c.T c.pv)∧w'.cell? ⟨mb,1,none⟩=some (.int .i64 x1)) 14 ?_;have hS0:=hS1;refine AnyL.tk 0 (h:=?_);refine AnyL.tk 1 (h:=?_);refine AnyL.tk 2 (h:=?_);refine AnyL.tk 3 (h:=?_);refine AnyL.tk 4 (h:=?_);refine AnyL.tk 5 (h:=?_);refine AnyL.tk 6 (h:=?_);refine AnyL.tk 7 (h:=?_);refine AnyL.tk 8 (h:=?_);refine AnyL.tk 9 (h:=?_);refine AnyL.tk 10 (h:=?_);refine AnyL.on 11 (h:=fun K hK=>?_);go_simp;refine ((Hs0.out.drew HC.out).here.elem HC.out x1 Hx1.out).mono ?_;rintro e wA ⟨rfl,F1,g0⟩;have g1:=(Hs0.out.drew HC.out).trans g0;clear g0;have hSb:(fun w':World=>w'.cell? ⟨kb,1,none⟩=some (.iface c.T c.pv)∧w'.cell? ⟨mb,1,none⟩=some (.int .i64 x1)) wA:=by
  refine ⟨g1.k1,?_⟩;rw [g1.m.cell 1 (by decide),HX1.out]
 have z0:=g1.m.free 1;have G1:=zh g1;clear g1;refine hK _ _ (fun _=>hSb) (fun hKq=>?_);clear hK K hKq
 try simp only [zpt]
 refine AnyL.tk 12 (h:=?_);refine AnyL.tk 13 (h:=?_);refine AnyL.on 14 (h:=fun K hK=>?_);go_simp;refine hK _ _ (fun h=>absurd rfl h) (fun hKq=>?_);clear hK K hKq
 try simp only [zpt]
 refine AnyL.dn (h:=?_);have g2:=G1.out.setM HC.out 1 (.int .i64 shape);clear hS0 hS1 hSb z0 Hs0;generalize wA.setCell ⟨mb,1,none⟩ (.int .i64 shape)=w1 at*;have k0:=g2.k0;have k2:=g2.k2;have e1:w1.cell? ⟨mb,1,none⟩=some (.int .i64 shape):=by rw [g2.m.cell 1 (by decide),ZK]
 have Hs1:=zh g2;clear g2 G1
 go_wp2_with fail
 refine (zGL shape _).mono ?_;intro e w2 hu;obtain ⟨v,rfl,U,hU,hnew,o2⟩:=hu;obtain ⟨g,hgU,rfl,hrow⟩:=hU.sl;have hsc:=Hs1.out.same HC.out o2;have hUd:∀ i∈U,i≠sb∧i≠mb∧i∉F1:=fun i hi=>by
  have h9:=hnew i hi;have h10:=Hs1.out.l;have h11:=Hs1.out.o.size;exact ⟨by omega,by omega,fun h=>by have:=HC.out.low F1 _ _ Hs1.out.c i h;omega⟩
 have hlen:(ZD shape).length≤4:=zBD shape;obtain ⟨LL,hLL⟩:∃ l,l=(ZD shape).length:=⟨_,rfl⟩;rw [←hLL] at hlen ⊢;obtain ⟨rest,hrest⟩:∃ q,q=ZM (a0-1) 0 (fun p=>y (20+7*p)) G (ZD shape)++(ZM (a1-1) 1 (fun p=>y (20+7*p)) G (ZD shape)++(ZI B0 0 (fun p=>y (20+7*p)) G (ZD shape) 0++(ZI B1 1 (fun p=>y (20+7*p)) G (ZD shape) 0++r))):=⟨_,rfl⟩;have Hs2:Hid (Scene c F1 w2 w2 kb sb mb (zV S z) (upd X 1 (.int .i64 shape)) n (zG ds) F1 ((if t=1 then zBj (if shape=3 then 3 else 2) (fun p=>y (20+7*p)) (ZD shape) else [])++rest)):=zh (by
  have h9:Scene c F1 w2 w2 kb sb mb (zV S z) (upd X 1 (.int .i64 shape)) n (zG ds) F1 (((if t=1 then zBj (if shape=3 then 3 else 2) (fun p=>y (20+7*p)) (ZD shape) else [])++(ZM (a0-1) 0 (fun p=>y (20+7*p)) G (ZD shape)++(ZM (a1-1) 1 (fun p=>y (20+7*p)) G (ZD shape)++(ZI B0 0 (fun p=>y (20+7*p)) G (ZD shape) 0++ZI B1 1 (fun p=>y (20+7*p)) G (ZD shape) 0))))++r):=hsc.here;rw [hrest]
  simpa only [List.append_assoc] using h9)
 have Hbase:=zh hsc;have HUI:=zh hU;have HUL:Hid (UnitsIn w2 U (.slice (some ⟨g,0,none⟩) LL LL) (ZD shape)):=zh (by rw [hLL];exact hU);have HUd:=zh hUd;have Hrow:=zh hrow;have HgU:=zh hgU;have HLL:=zh hLL;have Hrest:=zh hrest;have k0:=hsc.k0;have k2:=hsc.k2;have s2:w2.cell? ⟨sb,2,none⟩=some (.int .i64 t):=by rw [hsc.s.cell 2 (by decide),zI _ _ (by decide),H2.out]
 have e1:w2.cell? ⟨mb,1,none⟩=some (.int .i64 shape):=by rw [hsc.m.cell 1 (by decide),ZK]
 clear hsc hU hUd hrow hgU hLL hrest hnew o2
 go_upto_if 50 with fail
 go_cut [] (fun wx=>∃ (F2:List Nat) (x2:Nat→Int),Hid (Scene c F1 w2 wx kb sb mb (zV S z) (zAz 20 28 (fun i=> .int .i64 (x2 i)) (upd X 1 (.int .i64 shape))) n (zG ds) F2 rest∧DirZ c.wr shape y LL x2))
 case first=>
  rcases Ht.out with rfl|rfl
  ·have HDz:=zh (HD0.out rfl);have Hs2z:Hid (Scene c F1 w2 w2 kb sb mb (zV S z) (upd X 1 (.int .i64 shape)) n (zG ds) F1 rest):=Hs2
   go_wp2_with fail
   go_meet;refine ⟨F1,x,zh ⟨?_,?_⟩⟩
   ·rw [zIU _ _ (fun i hi=>by rw [ZN _ _ (by omega)];exact HX.out i hi)];exact Hs2z.out
   ·refine ⟨fun hw k hk=>Hxw.out hw k hk,fun hw k hk _=>Hxr.out hw k hk,fun p hp _=>?_⟩
    cases hw:c.wr with
    |true=>exact Hxw.out hw _ (by omega)
    |false=>rw [Hxr.out hw _ (by omega),HDz.out p hp]
  ·obtain ⟨mo,hmo⟩:∃ m,m=(if shape=3 then 3 else 2:Int):=⟨_,rfl⟩;have qm:IntKind.i64.wrap (2+zl (shape==3))=mo:=by
    rw [hmo]
    by_cases h3:shape=3
    ·subst h3;rfl
    ·rw [if_neg h3,show (shape==3)=false by simpa using h3];rfl
   rw [←hmo] at Hs2;have Hmo:=zh hmo;clear hmo;have Hs2z:Hid (Scene c F1 w2 w2 kb sb mb (zV S z) (upd X 1 (.int .i64 shape)) n (zG ds) F1 (zBj mo (fun p=>y (20+7*p)) (ZD shape)++rest)):=Hs2
   go_wp2_with fail
   refine (zBz _ _).mono ?_;rintro e w3 ⟨rfl,rfl⟩
   go_wp2_with fail
   clear k0 k2 s2 e1 qm
   go_loopw [60] (fun s wx=>∃ (i:Nat) (F2:List Nat) (x2:Nat→Int),i≤LL∧s=.int .i64 (i:Int)∧Hid (Scene c F1 w2 wx kb sb mb (zV S z) (zAz 20 28 (fun i=> .int .i64 (x2 i)) (upd X 1 (.int .i64 shape))) n (zG ds) F2 (zBj mo (fun p=>y (20+7*p)) ((ZD shape).drop i)++rest)∧DirZ c.wr shape y i x2)) (fun s _=>(LL-intOf s).toNat)
   case atStart=>
    refine ⟨0,F1,x,Nat.zero_le _,rfl,zh ⟨?_,⟨fun hw k hk=>Hxw.out hw k hk,fun hw k hk _=>Hxr.out hw k hk,fun p hp h=>absurd h (by omega)⟩⟩⟩;rw [zIU _ _ (fun i hi=>by rw [ZN _ _ (by omega)];exact HX.out i hi)];exact Hs2z.out
   case round=>
    obtain ⟨i,F2,x2,hi,rfl,Hx⟩:=hrel
    by_cases hlt:i<LL
    ·obtain ⟨u,hu⟩:∃ u,(ZD shape)[i]? =some u:=⟨_,List.getElem?_eq_getElem (by rw [←HLL.out];exact hlt)⟩;obtain ⟨hd,tl,hut,hd4,hhd,hum⟩:=ZY HS.out i u hu;have huL:u.length≤4:=(zO shape u (List.mem_of_getElem? hu)).1;have hup:∀ p∈u,p<4:=(zO shape u (List.mem_of_getElem? hu)).2.2;have hdrop:(ZD shape).drop i=u::(ZD shape).drop (i+1):=by
      rw [List.drop_eq_getElem_cons (by rw [←HLL.out];exact hlt)];rw [List.getElem?_eq_getElem (by rw [←HLL.out];exact hlt)] at hu;rw [Option.some.inj hu]
     have hh0:hd0 u=hd:=by rw [hut];rfl
     obtain ⟨b,hbU,hc1,hc2⟩:=Hrow.out i u hu;have hx:=Hx.out.1;have oB:∀ j∈U,j∉sb::mb::F1:=fun j hj e=>by
      have h9:=HUd.out j hj;simp only [List.mem_cons] at e
      rcases e with e|e|e
      ·exact h9.1 e
      ·exact h9.2.1 e
      ·exact h9.2.2 e
     have c1:=hx.o.cell hc1 (oB g HgU.out);have hC2:∀ wx,Only (sb::mb::F1) w2 wx→∀ (j p:Nat),u[j]? =some p→wx.cell? ⟨b,j,none⟩=some (.int .i64 p):=fun wx ho j p hj=>ho.cell (hc2 j p hj) (oB b hbU)
     have HC2:=zh hC2;have c20:=hC2 wr hx.o 0 hd (by rw [hut];rfl);have hbsb:b≠mb:=(HUd.out b hbU).2.1;have Hhup:=zh hup;have Hu:=zh hu;have Hut:=zh hut;have Hx2:Hid (Scene c F1 w2 wr kb sb mb (zV S z) (zAz 20 28 (fun i=> .int .i64 (x2 i)) (upd X 1 (.int .i64 shape))) n (zG ds) F2 (.elem 7 0 (y (20+7*hd)) mo::(zBj mo (fun p=>y (20+7*p)) ((ZD shape).drop (i+1))++rest))):=zh (by
      rw [hdrop] at hx;unfold zBj at hx ⊢;rw [List.map_cons,hh0] at hx;exact hx)
     have Hdz:=zh Hx.out.2;obtain ⟨m,hm⟩:∃ m,m=u.length:=⟨_,rfl⟩;have h1m:1≤m:=by rw [hm,hut];simp
     rw [←hm] at huL c1;have Hm:=zh hm;have h0m:0<m:=h1m;have hd4i:(hd:Int)<4:=by omega
     have k0:=hx.k0;have hS8:(fun w':World=>w'.cell? ⟨kb,1,none⟩=some (.iface c.T c.pv)∧w'.cell? ⟨b,0,none⟩=some (.int .i64 hd)∧w'.cell? ⟨mb,20+hd*7,none⟩=some (.int .i64 (x2 (7*hd)))) wr.drew:=⟨hx.k1,c20,by
      show wr.cell? ⟨mb,20+hd*7,none⟩=_
      rw [hx.m.cell (20+hd*7) (by omega),zE5 _ _ _ (by omega),Nat.mul_comm]⟩
     obtain ⟨dr,hdr⟩:∃ d,d=y (20+7*hd):=⟨_,rfl⟩;rw [←hdr] at Hx2;have Hdr:=zh hdr;clear hx hum hup hdrop hu hut hc1 hc2 hC2 oB hh0 hhd hm Hx hdr
     go_upto_region 8 with fail
     refine zH (by kernel_rfl) (fun w':World=>w'.cell? ⟨kb,1,none⟩=some (.iface c.T c.pv)∧w'.cell? ⟨b,0,none⟩=some (.int .i64 hd)∧w'.cell? ⟨mb,20+hd*7,none⟩=some (.int .i64 (x2 (7*hd)))) 17 ?_;have hS0:=hS8;refine AnyL.tk 0 (h:=?_);refine AnyL.tk 1 (h:=?_);refine AnyL.tk 2 (h:=?_);refine AnyL.tk 3 (h:=?_);refine AnyL.tk 4 (h:=?_);refine AnyL.tk 5 (h:=?_);refine AnyL.tk 6 (h:=?_);refine AnyL.tk 7 (h:=?_);refine AnyL.tk 8 (h:=?_);refine AnyL.tk 9 (h:=?_);refine AnyL.tk 10 (h:=?_);refine AnyL.tk 11 (h:=?_);refine AnyL.tk 12 (h:=?_);refine AnyL.tk 13 (h:=?_);refine AnyL.tk 14 (h:=?_);refine AnyL.tk 15 (h:=?_);refine AnyL.on 16 (h:=fun K hK=>?_);go_simp;refine ((Hx2.out.drew HC.out).here.elem HC.out (x2 (7*hd)) (fun hw=>by rw [Hdz.out.told hw _ (by omega),Hdr.out])).mono ?_;rintro e w5 ⟨rfl,F3,g0⟩;have g1:=(Hx2.out.drew HC.out).trans g0
     have hSb:(fun w':World=>w'.cell? ⟨kb,1,none⟩=some (.iface c.T c.pv)∧w'.cell? ⟨b,0,none⟩=some (.int .i64 hd)∧w'.cell? ⟨mb,20+hd*7,none⟩=some (.int .i64 (x2 (7*hd)))) w5:=⟨g1.k1,HC2.out w5 g1.o 0 hd (by rw [Hut.out];rfl),by
      show w5.cell? ⟨mb,20+hd*7,none⟩=_
      rw [g1.m.cell (20+hd*7) (by omega),zE5 _ _ _ (by omega),Nat.mul_comm]⟩
     have G1:=zh g1;clear g1 g0;refine hK _ _ (fun _=>hSb) (fun hKq=>?_);clear hK K hKq
     try simp only [zpt]
     refine AnyL.on 17 (h:=fun K hK=>?_);go_simp;refine hK _ _ (fun h=>absurd rfl h) (fun hKq=>?_);clear hK K hKq
     try simp only [zpt]
     refine AnyL.dn (h:=?_);clear hS0 hS8 hSb k0 c20 c1
     go_wp2_with fail
     go_loopw [83] (fun s wx=>∃ j:Nat,j≤m∧s=.int .i64 (j:Int)∧Hid (BlkIn wx mb 483 51 (zAz 20 28 (fun i=> .int .i64 (zEL dr (u.take j) x2 i)) (upd X 1 (.int .i64 shape)))∧Only [mb] w5 wx)) (fun s _=>(m-intOf s).toNat)
     case atStart=>exact ⟨0,Nat.zero_le _,rfl,zh ⟨G1.out.m,Only.refl _ _⟩⟩
     case round=>
      obtain ⟨j,hj,rfl,Hy⟩:=hrel
      by_cases hjm:j<m
      ·obtain ⟨p,hp⟩:∃ p,u[j]? =some p:=⟨_,List.getElem?_eq_getElem (by rw [←Hm.out];exact hjm)⟩;have p4:p<4:=Hhup.out p (List.mem_of_getElem? hp);have p4i:(p:Int)<4:=by omega
       have c0:=Hy.out.2.cell (HC2.out w5 G1.out.o j p hp) (by simp;exact hbsb);have cc:=Hy.out.1.cell (20+p*7) (by omega);have z0:=Hy.out.1.free (20+p*7);have HT:=zh (zBn u j p hp);clear hp
       go_wp2_with fail
       refine ⟨⟨j+1,by omega,rfl,zh ⟨?_,Hy.out.2.setCell (.inl (by simp)) _⟩⟩,by simp [intOf];omega⟩;have h9:=Hy.out.1.set (20+p*7) (.int .i64 dr);rw [Nat.mul_comm p 7,zLL _ _ _ _ (by omega)] at h9;rw [HT.out,zFJ,Nat.mul_comm p 7];exact h9
      ·obtain rfl:j=m:=by omega
       go_wp2_with fail
       refine ⟨⟨i+1,F3,zEL dr u x2,by omega,rfl,zh ⟨?_,?_⟩⟩,by simp [intOf];omega⟩
       ·have h9:=Hy.out.1;rw [List.take_of_length_le (by rw [←Hm.out];exact Nat.le_refl _)] at h9;exact G1.out.newM HC.out h9 Hy.out.2
       ·rw [Hdr.out];exact Hdz.out.step HS.out Hu.out Hut.out HU.out
    ·obtain rfl:i=LL:=by omega
     go_wp2_with fail
     go_meet;refine ⟨F2,x2,zh ⟨?_,Hx.out.2⟩⟩;have h9:=Hx.out.1;rw [List.drop_of_length_le (by rw [←HLL.out];exact Nat.le_refl _)] at h9;exact h9
 case rest=>
  obtain ⟨F2,x2,hcc⟩:=hcut;have hsc:=hcc.out.1;have Hdz:=zh hcc.out.2;obtain ⟨XL,hXL⟩:∃ l,l=(List.range 28).map (fun i=>Value.int .i64 (x2 i)):=⟨_,rfl⟩;have hr:wc.rangeAt mb 20 XL:=by
   rw [hXL];exact zAN (o:=20) (len:=28) hsc.m x2 (fun i hi=>zE5 _ _ _ hi) (by decide)
  have hX28:XL.length=28:=by rw [hXL];simp
  have hi28:(Tryz.prog.info? 46).map (·.size)=some XL.length:=by rw [hX28];kernel_rfl
  have HX28:=zh hX28;have HI28:=zh hi28;have HR:=zh hr;have HXL:=zh hXL;have Hsc:=zh hsc;clear hr hX28 hi28 hXL hsc hcc k0 k2 s2 e1
  go_wp2_with (refine zAQ 99 rfl ?_)
  refine ⟨?_⟩;refine wpList_load_mid rfl _ _ rfl mb 20 rfl XL _ HR.out Tryz.underlying46 rfl HI28.out ?_;simp only [Act.put,List.setIfInBounds_toArray,List.set_cons_zero,List.set_cons_succ]
  (refine wpList_step (fun K hK=>?_);rw [if_pos (by rfl)];go_simp;refine hK _ _ ?_;clear hK K)
  refine wpList_step (fun K hK=>?_);rw [if_pos (by rfl)];refine ZG _ _ _ rfl wc.heap.size XL rfl rfl (ZA wc _) HI28.out HX28.out (by rw [HXL.out];intro v hv;obtain ⟨j,-,rfl⟩:=List.mem_map.1 hv;rfl) fun w4 h4 o4=>?_
  refine hK _ _ ?_;clear hK K;simp only [Act.put];rw [show Value.agg XL.toArray=.agg (fnA 28 (fun i=> .int .i64 (x2 i))) by rw [HXL.out];rfl];have oq:Only [] wc w4:=((Only.refl [] wc).alloc _).trans' o4 (fun i hi=> .inr (by simp at hi;omega));have hs4:=Hsc.out.same HC.out oq;obtain ⟨bq,hbq⟩:∃ b,b=wc.heap.size:=⟨_,rfl⟩;rw [←hbq] at h4 ⊢;have HBQ:Hid (BlkIn w4 bq 28 46 (fun i=> .int .i64 (x2 i))):=zh (by rw [HXL.out] at h4;exact h4);have hbn:bq≠kb∧bq≠sb∧bq≠mb∧bq∉F2:=by
   have h9:=Hsc.out.l;have h10:=Hsc.out.o.size;exact ⟨by omega,by omega,by omega,fun h=>by have:=HC.out.low F2 _ _ Hsc.out.c _ h;omega⟩
  have Hbn:=zh hbn;have hmot:MotIn w4 sb (zV S z) f wide n ds z:=⟨hs4.st (by rw [zI _ _ (by decide)];exact H0.out) (by rw [zI _ _ (by decide)];exact H21.out) Hbd.out.1 Hbd.out.2.1 Hbd.out.2.2,Hds.out,fun i _=>zB4 S z i⟩;have k0:=hs4.k0;have Hmot:=zh hmot;have Hs4:=zh hs4;clear h4 o4 oq hs4 hbq hbn hmot HR Hsc
  go_wp2_with fail
  refine (zC1 Hmot.out H6.out).mono ?_;rintro e w5 ⟨rfl,h5,o5⟩;rw [zD0];obtain ⟨tq,htq⟩:∃ q,q=zJW ds f wide n sp:=⟨_,rfl⟩;rw [←htq];have Htq:=zh htq;have hs5:=Hs4.out.newS HC.out h5 (by rw [zI _ _ (by decide),zI _ _ (by decide)]) o5;have hbq5:=HBQ.out.only o5 (by simp;exact Hbn.out.2.1);obtain ⟨w6,hw6⟩:∃ w6,w6=w5.alloc (.cells #[.int .i64 (tq 0),.int .i64 (tq 1),.int .i64 (tq 2),.int .i64 (tq 3),.int .i64 (tq 4),.int .i64 (tq 5),.int .i64 (tq 6)] 45):=⟨_,rfl⟩;have o6:Only [] w5 w6:=by rw [hw6];exact (Only.refl _ _).alloc _
  have hs6:=hs5.same HC.out o6;obtain ⟨tb,htb⟩:∃ b,b=w5.heap.size:=⟨_,rfl⟩;have HTB:Hid (BlkIn w6 tb 7 45 (fun i=> .int .i64 (tq i))):=zh (by rw [hw6,htb];exact ZA w5 _);have HBQ6:=zh (hbq5.only o6 (by simp));have htn:tb≠kb∧tb≠sb∧tb≠mb∧tb∉F2:=by
   have h9:=hs5.l;have h10:=hs5.o.size;exact ⟨by omega,by omega,by omega,fun h=>by have:=HC.out.low F2 _ _ hs5.c _ h;omega⟩
  have Htn:=zh htn;clear k0 htq h5 o5;have k0:=hs6.k0;have k2:=hs6.k2;have e1:w6.cell? ⟨mb,1,none⟩=some (.int .i64 shape):=by rw [hs6.m.cell 1 (by decide),zBg _ _ _ (by decide),ZK]
  have Hs6:=zh hs6;unfold zCP
  go_upto_region 17 with fail
  rw [←hw6,←htb];clear hw6 htb htn o6 hs5 hs6 hbq5 Hmot Hs4 HBQ
  go_still_tail 8,(by kernel_rfl)
  change wpList _ _ _ _ _ w6.drew
  have hs6:=Hs6.out.drew HC.out;have hbq6:BlkIn w6.drew bq 28 46 (fun i=> .int .i64 (x2 i)):=HBQ6.out;have htb6:BlkIn w6.drew tb 7 45 (fun i=> .int .i64 (tq i)):=HTB.out;have Hd6:=zh hs6;have HBd:=zh hbq6;have HTd:=zh htb6;clear hs6 hbq6 htb6 HBQ6 HTB Hs6;generalize w6.drew=wd at*
  go_wp2_with fail
  refine (zGS 4 shape Hd6.out.s).mono ?_;rintro e w7 ⟨rfl,h7,o7⟩;have hs7:=Hd6.out.newS HC.out h7 (by rw [zI _ _ (by decide),zI _ _ (by decide)]) o7;have HBQ7:=zh (HBd.out.only o7 (by simp;exact Hbn.out.2.1));have HTB7:=zh (HTd.out.only o7 (by simp;exact Htn.out.2.1));have Hs7:=zh hs7;have Hz7:Hid (SetZ shape y tq x2 0 (zw 4 shape (zw 5 0 z))):=zh (SetZ.start HS.out y tq x2 _);clear h7 o7 hs7 Hd6 HBd HTd k0 k2 e1;obtain ⟨z7,hz7⟩:∃ q,q=zw 4 shape (zw 5 0 z):=⟨_,rfl⟩;rw [←hz7] at Hs7 Hz7;clear hz7
  go_wp2_with fail
  go_loopw [116] (fun s wx=>∃ (i:Nat) (z1:Nat→Int),i≤LL∧s=.int .i64 (i:Int)∧Hid (Scene c F1 w2 wx kb sb mb (zV S z1) (zAz 20 28 (fun i=> .int .i64 (x2 i)) (upd X 1 (.int .i64 shape))) n (zG ds) F2 rest∧SetZ shape y tq x2 i z1∧BlkIn wx bq 28 46 (fun i=> .int .i64 (x2 i))∧BlkIn wx tb 7 45 (fun i=> .int .i64 (tq i)))) (fun s _=>(LL-intOf s).toNat)
  case atStart=>exact ⟨0,z7,Nat.zero_le _,rfl,zh ⟨Hs7.out,Hz7.out,HBQ7.out,HTB7.out⟩⟩
  case round=>
   obtain ⟨i,z1,hi,rfl,Hx⟩:=hrel
   by_cases hlt:i<LL
   ·obtain ⟨u,hu⟩:∃ u,(ZD shape)[i]? =some u:=⟨_,List.getElem?_eq_getElem (by rw [←HLL.out];exact hlt)⟩;obtain ⟨hd,tl,hut,hd4,hhd,hum⟩:=ZY HS.out i u hu;have huL:u.length≤4:=(zO shape u (List.mem_of_getElem? hu)).1;have hup:∀ p∈u,p<4:=(zO shape u (List.mem_of_getElem? hu)).2.2;obtain ⟨b,hbU,hc1,hc2⟩:=Hrow.out i u hu;have hx:=Hx.out.1;have oB:∀ j∈U,j∉sb::mb::F1:=fun j hj e=>by
     have h9:=HUd.out j hj;simp only [List.mem_cons] at e
     rcases e with e|e|e
     ·exact h9.1 e
     ·exact h9.2.1 e
     ·exact h9.2.2 e
    have c1:=hx.o.cell hc1 (oB g HgU.out);have hC2:∀ wx,Only (sb::mb::F1) w2 wx→∀ (j p:Nat),u[j]? =some p→wx.cell? ⟨b,j,none⟩=some (.int .i64 p):=fun wx ho j p hj=>ho.cell (hc2 j p hj) (oB b hbU)
    have HC2:=zh hC2;have c20:=hC2 wr hx.o 0 hd (by rw [hut];rfl);have hbsb:b≠sb:=(HUd.out b hbU).1;have hblt:=HUI.out.lt b hbU;have Hhup:=zh hup;have Hu:=zh hu;have Hut:=zh hut;obtain ⟨m,hm⟩:∃ m,m=u.length:=⟨_,rfl⟩;have h1m:1≤m:=by rw [hm,hut];simp
    rw [←hm] at huL c1;have Hm:=zh hm;have h0m:0<m:=h1m;have hd4i:(hd:Int)<4:=by omega
    obtain ⟨p,hp⟩:∃ p:Nat→Int,p=fun j=>x2 (7*hd+j):=⟨_,rfl⟩
    obtain ⟨ZL,hZL⟩:∃ l,l=(List.range 7).map (fun j=>Value.int .i64 (p j)):=⟨_,rfl⟩;have hzr:wr.rangeAt mb (20+hd*7) ZL:=by
     rw [hZL,hp];exact zAN (o:=20+hd*7) (len:=7) hx.m (fun j=>x2 (7*hd+j)) (fun j hj=>by rw [show 20+hd*7+j=20+(7*hd+j) by omega];exact zE5 _ _ _ (by omega)) (by omega)
    have hZ7:ZL.length=7:=by rw [hZL];simp
    have hI7:(Tryz.prog.info? 45).map (·.size)=some ZL.length:=by rw [hZ7];kernel_rfl
    have HZ7:=zh hZ7;have HI7:=zh hI7;have HZL:=zh hZL;have Hp':=zh hp;have hS21:(fun w':World=>w'.cell? ⟨b,0,none⟩=some (.int .i64 hd)∧w'.rangeAt mb (20+hd*7) ZL) wr.drew:=⟨c20,hzr⟩;obtain ⟨pb,hpb⟩:∃ q,q=wr.heap.size:=⟨_,rfl⟩;have hpsz:pb≠sb∧pb≠bq∧pb≠tb∧pb≠b:=by
     have h9:=hx.l;have h10:=hx.o.size;have h11:=Hx.out.2.2.1.lt;have h12:=Hx.out.2.2.2.lt;omega
    have Hpsz:=zh hpsz;have HPY:Hid (pb≠kb∧pb≠sb∧pb≠mb∧pb∉F2∧(zV S z1 23).ownBlock≠some pb∧w2.heap.size≤pb):=zh (by
     have h9:=hx.l;have h10:=hx.o.size;exact ⟨by omega,by omega,by omega,fun h=>by have:=HC.out.low F2 _ _ hx.c _ h;omega,fun h=>by have:=(hx.ag h).2.2.2;omega,by omega⟩)
    clear hx hum hup hu hut hc1 hc2 hC2 oB hhd hm hp hZL hzr hZ7 hI7 hpsz
    go_upto_region 21 with fail
    refine zH (by kernel_rfl) (fun w':World=>w'.cell? ⟨b,0,none⟩=some (.int .i64 hd)∧w'.rangeAt mb (20+hd*7) ZL) 9 ?_;have hS0:=hS21;refine AnyL.tk 0 (h:=?_);refine AnyL.tk 1 (h:=?_);refine AnyL.tk 2 (h:=?_);refine AnyL.tk 3 (h:=?_);refine AnyL.tk 4 (h:=?_);refine AnyL.tk 5 (h:=?_);refine AnyL.tk 6 (h:=?_);refine AnyL.tl 7 rfl (yieldsIf_load_mid (by rfl) _ _ rfl mb (20+hd*7) rfl ZL _ (fun w' h=>h.2) Tryz.underlying45 rfl HI7.out) ?_;refine AnyL.on 8 (h:=fun K hK=>?_);go_simp;have hSb:(fun w':World=>w'.cell? ⟨b,0,none⟩=some (.int .i64 hd)∧w'.rangeAt mb (20+hd*7) ZL) (wr.drew.alloc (.cells #[.int .i64 0,.int .i64 0,.int .i64 0,.int .i64 0,.int .i64 0,.int .i64 0,.int .i64 0] 45)):=⟨(Only.refl [] _).alloc _ |>.cell hS0.1 (by simp),fun j v hj=>(Only.refl [] _).alloc _ |>.cell (hS0.2 j v hj) (by simp)⟩;refine hK _ _ (fun _=>hSb) (fun hKq=>?_);clear hK K hKq
    try simp only [zpt]
    refine AnyL.on 9 (h:=fun K hK=>?_);rw [if_pos (by rfl)];refine ZG _ _ _ rfl wr.heap.size ZL rfl rfl (ZA wr.drew _) HI7.out HZ7.out (by rw [HZL.out];intro v hv;obtain ⟨j,-,rfl⟩:=List.mem_map.1 hv;rfl) fun wA hA oA=>?_
    refine hK _ _ (fun h=>absurd rfl h) (fun hKq=>?_);clear hK K hKq
    try simp only [Act.put]
    refine AnyL.dn (h:=?_);rw [←hpb] at hA ⊢;have oP:Only [] wr wA:=(((Only.refl [] wr).drew).alloc _).trans' oA (fun i hi=> .inr (by simp at hi;omega));have HPA:Hid (BlkIn wA pb 7 45 (fun j=> .int .i64 (p j))):=zh (by rw [HZL.out] at hA;exact hA);have HTA:=zh (Hx.out.2.2.2.only oP (by simp));have HBA:=zh (Hx.out.2.2.1.only oP (by simp));have HsA:=zh (Hx.out.1.same HC.out oP);have HzA:=zh Hx.out.2.1;obtain ⟨dd,hdd⟩:∃ d,d=y (20+7*hd):=⟨_,rfl⟩;have g0:wA.cell? ⟨pb,0,none⟩=some (.int .i64 dd):=by
     rw [HPA.out.cell 0 (by decide),Hp'.out]
     show some (Value.int .i64 (x2 (7*hd+0)))=_
     rw [Nat.add_zero,Hdz.out.got hd hd4 (by rw [HLL.out];exact Zn HS.out hd hd4),hdd]
    have Hdd:=zh hdd;clear hS0 hS21 hSb hA oA oP c20 c1 hdd Hx hpb
    go_upto_if 130 with fail
    go_cut [] (fun wx=>∃ p':Nat→Int,Hid (BlkIn wx pb 7 45 (fun j=> .int .i64 (p' j))∧(∀ j,j<7→p' j=if dd=3 then tq j else zFk dd 2 p j)∧Only [pb] wA wx))
    case first=>
     by_cases h3:dd=3
     ·have b3:decide (dd=3)=true:=decide_eq_true h3;have t0:=HTA.out.cell 0 (by decide);have t1:=HTA.out.cell 1 (by decide);have t2:=HTA.out.cell 2 (by decide);have t3:=HTA.out.cell 3 (by decide);have t4:=HTA.out.cell 4 (by decide);have t5:=HTA.out.cell 5 (by decide);have t6:=HTA.out.cell 6 (by decide)
      go_wp2_with (refine zAQ 131 rfl ?_)
      refine ⟨?_⟩
      (refine wpList_step (fun K hK=>?_);rw [if_pos (by rfl)];go_simp;refine hK _ _ ?_;clear hK K)
      refine wpList_step (fun K hK=>?_);rw [if_pos (by rfl)];refine ZG _ _ _ rfl pb [.int .i64 (tq 0),.int .i64 (tq 1),.int .i64 (tq 2),.int .i64 (tq 3),.int .i64 (tq 4),.int .i64 (tq 5),.int .i64 (tq 6)] rfl rfl HPA.out (by kernel_rfl) rfl (by simp [Value.oneCell']) fun wB hB oB=>?_
      refine hK _ _ ?_;clear hK K;simp only [Act.put]
      go_wp2_with fail
      go_meet;exact ⟨tq,zh ⟨hB,fun j hj=>by rw [if_pos h3],oB⟩⟩
     ·have b3:decide (dd=3)=false:=decide_eq_false h3
      go_wp2_with fail
      refine (zBQ dd _).mono ?_;rintro e wB ⟨rfl,oB⟩;obtain ⟨B0,hB0⟩:∃ b,b=Zv 0 dd:=⟨_,rfl⟩;obtain ⟨B1,hB1⟩:∃ b,b=Zv 1 dd:=⟨_,rfl⟩;rw [←hB0,←hB1];have HB0:=zh hB0;have HB1:=zh hB1;clear hB0 hB1;have i0:∀ w,(Instr.index 177 (.agg #[.bool B0,.bool B1]) (.int .i64 0)).run Tryz.prog w=.ok (.bool B0) w:=fun _=>by kernel_rfl
      have i1:∀ w,(Instr.index 177 (.agg #[.bool B0,.bool B1]) (.int .i64 1)).run Tryz.prog w=.ok (.bool B1) w:=fun _=>by kernel_rfl
      have OB:Hid (Only [pb] wA wB):=zh (oB.mono (by simp));have HPB:=zh (HPA.out.only oB (by simp));clear g0 oB
      go_wp2_with fail
      go_loopw [135] (fun s wx=>∃ k:Nat,k≤2∧s=.int .i64 (k:Int)∧Hid (BlkIn wx pb 7 45 (fun j=> .int .i64 (zFk dd k p j))∧Only [pb] wA wx)) (fun s _=>(2-intOf s).toNat)
      case atStart=>exact ⟨0,by decide,rfl,zh ⟨HPB.out,OB.out⟩⟩
      case round=>
       obtain ⟨k,hk,rfl,Hy⟩:=hrel;obtain rfl|rfl|rfl:k=0∨k=1∨k=2:=by omega
       ·have hq:BlkIn wr pb 7 45 (fun j=> .int .i64 (zFk dd 0 p j)):=Hy.out.1
        cases B0 with
        |true=>
         go_wp2_with fail
         refine ⟨⟨1,by decide,rfl,zh ⟨?_,Hy.out.2⟩⟩,by simp [intOf]⟩
         show BlkIn wr pb 7 45 (fun j=> .int .i64 ((if Zv 0 dd=true then zFk dd 0 p else zL9 0 (zFk dd 0 p)) j))
         rw [if_pos HB0.out.symm];exact hq
        |false=>
         have c1:=hq.cell 1 (by decide);have f1:=hq.free 1;have c3:=hq.cell 3 (by decide);have f3:=hq.free 3;have c4:=hq.cell 4 (by decide);have f4:=hq.free 4;have HQ:=zh hq;clear hq
         go_wp2_with fail
         refine ⟨⟨1,by decide,rfl,zh ⟨?_,((Hy.out.2.setCell (.inl (by simp)) _).setCell (.inl (by simp)) _).setCell (.inl (by simp)) _⟩⟩,by simp [intOf]⟩;have h9:=((HQ.out.set 1 (.int .i64 (-1))).set 3 (.int .i64 0)).set 4 (.int .i64 0);rw [zJg 0] at h9
         show BlkIn _ pb 7 45 (fun j=> .int .i64 ((if Zv 0 dd=true then zFk dd 0 p else zL9 0 (zFk dd 0 p)) j))
         rw [if_neg (by rw [←HB0.out];decide)];exact h9
       ·have hq:BlkIn wr pb 7 45 (fun j=> .int .i64 (zFk dd 1 p j)):=Hy.out.1
        cases B1 with
        |true=>
         go_wp2_with fail
         refine ⟨⟨2,by decide,rfl,zh ⟨?_,Hy.out.2⟩⟩,by simp [intOf]⟩
         show BlkIn wr pb 7 45 (fun j=> .int .i64 ((if Zv 1 dd=true then zFk dd 1 p else zL9 1 (zFk dd 1 p)) j))
         rw [if_pos HB1.out.symm];exact hq
        |false=>
         have c1:=hq.cell 2 (by decide);have f1:=hq.free 2;have c3:=hq.cell 5 (by decide);have f3:=hq.free 5;have c4:=hq.cell 6 (by decide);have f4:=hq.free 6;have HQ:=zh hq;clear hq
         go_wp2_with fail
         refine ⟨⟨2,by decide,rfl,zh ⟨?_,((Hy.out.2.setCell (.inl (by simp)) _).setCell (.inl (by simp)) _).setCell (.inl (by simp)) _⟩⟩,by simp [intOf]⟩;have h9:=((HQ.out.set 2 (.int .i64 (-1))).set 5 (.int .i64 0)).set 6 (.int .i64 0);rw [zJg 1] at h9
         show BlkIn _ pb 7 45 (fun j=> .int .i64 ((if Zv 1 dd=true then zFk dd 1 p else zL9 1 (zFk dd 1 p)) j))
         rw [if_neg (by rw [←HB1.out];decide)];exact h9
       ·go_wp2_with fail
        go_meet;exact ⟨zFk dd 2 p,zh ⟨Hy.out.1,fun j hj=>by rw [if_neg h3],Hy.out.2⟩⟩
    case rest=>
     obtain ⟨p',hcc⟩:=hcut;have hsc:=HsA.out.only (Y:=[pb]) HC.out hcc.out.2.2 (by simp only [List.mem_singleton,forall_eq];exact HPY.out);have Hsc:=zh hsc;have k0:=hsc.k0;have p0:=hcc.out.1.cell 0 (by decide);have p1:=hcc.out.1.cell 1 (by decide);have p2:=hcc.out.1.cell 2 (by decide);have p3:=hcc.out.1.cell 3 (by decide);have p4:=hcc.out.1.cell 4 (by decide);have p5:=hcc.out.1.cell 5 (by decide);have p6:=hcc.out.1.cell 6 (by decide);clear hsc g0
     go_wp2_with fail
     refine (zFn (z:=z1) (q:=p') Hsc.out.k Hsc.out.s (HC2.out _ Hsc.out.o) Hhup.out Hm.out.symm huL Hsc.out.ks hbsb).mono ?_;rintro e wz ⟨rfl,h2,h3⟩;have hsz:=Hsc.out.newS HC.out h2 (by rw [zI _ _ (by decide),zI _ _ (by decide)]) h3;have hqz:SetZ shape y tq x2 (i+1) (zDg p' u z1):=HzA.out.step HS.out Hu.out Hut.out HU.out p' (DirZ.one (by rw [←HLL.out];exact Hdz.out) HS.out HU.out Hu.out Hut.out) (fun j hj=>by rw [hcc.out.2.1 j hj,←Hdd.out,←Hp'.out]);have hbz:=(HBA.out.only hcc.out.2.2 (by simp;exact Hpsz.out.2.1.symm)).only h3 (by simp;exact Hbn.out.2.1);have htz:=(HTA.out.only hcc.out.2.2 (by simp;exact Hpsz.out.2.2.1.symm)).only h3 (by simp;exact Htn.out.2.1);have HE:=zh (And.intro hsz (And.intro hqz (And.intro hbz htz)));clear p0 p1 p2 p3 p4 p5 p6 k0 h2 h3 hsz hqz hbz htz
     go_wp2_with fail
     exact ⟨⟨i+1,zDg p' u z1,by omega,rfl,HE⟩,by simp [intOf];omega⟩
   ·obtain rfl:i=LL:=by omega
    have hz9:SetZ shape y tq x2 (ZD shape).length z1:=by
     have h9:=Hx.out.2.1;rw [HLL.out] at h9;exact h9
    have Hone:Hid (zHc shape G):=zh (by rw [HG.out];exact zMs HU.out);have HdzL:Hid (DirZ c.wr shape y (ZD shape).length x2):=zh (by
     have h9:=Hdz.out;rw [HLL.out] at h9;exact h9)
    have Hmz:Hid (MotZ c.wr shape G (R0 shape y) 0 z1):=zh (by
     have h9:=hz9.mot HS.out HdzL.out Hp.out;rw [Htq.out,←HG.out] at h9;exact h9)
    have Hxs:Hid (∀ i,i<28→-1000≤x2 i∧x2 i≤1000):=zh (HdzL.out.small HS.out Hyb.out);have Hse:=zh Hx.out.1;have HBe:=zh Hx.out.2.2.1;clear hz9 Hx
    go_wp2_with fail
    go_loopw [154] (fun s wx=>∃ (k:Nat) (F3:List Nat) (z2:Nat→Int),k≤2∧s=.int .i64 (k:Int)∧Hid (Scene c F1 w2 wx kb sb mb (zV S z2) (zAz 20 28 (fun i=> .int .i64 (x2 i)) (upd X 1 (.int .i64 shape))) n (zG ds) F3 (if k=0 then rest else if k=1 then (ZM (a1-1) 1 (fun p=>y (20+7*p)) G (ZD shape)++(ZI B0 0 (fun p=>y (20+7*p)) G (ZD shape) 0++(ZI B1 1 (fun p=>y (20+7*p)) G (ZD shape) 0++r))) else (ZI B0 0 (fun p=>y (20+7*p)) G (ZD shape) 0++(ZI B1 1 (fun p=>y (20+7*p)) G (ZD shape) 0++r)))∧MotZ c.wr shape G (fun u j=>R0 shape y u j∨(0<k∧j=1)∨(1<k∧j=2)) 0 z2∧BlkIn wx bq 28 46 (fun i=> .int .i64 (x2 i))∧bq∉F3)) (fun s _=>(2-intOf s).toNat)
    case atStart=>exact ⟨0,F2,z1,by decide,rfl,zh ⟨Hse.out,Hmz.out.mono (fun u j _ h=>h.elim id (fun h=>h.elim (fun h=>absurd h.1 (by decide)) (fun h=>absurd h.1 (by decide)))) HS.out,HBe.out,Hbn.out.2.2.2⟩⟩
    case round=>
     obtain ⟨k,F3,z2,hk,rfl,Hy⟩:=hrel;have HBk:=zh Hy.out.2.2.1;have hsc:=Hy.out.1;have hU9:∀ i∈U,i≠sb∧i≠mb∧i∉F3:=fun i hi=>⟨(HUd.out i hi).1,(HUd.out i hi).2.1,fun h=>(hsc.n i h).elim (HUd.out i hi).2.2 (fun h=>by have:=HUI.out.lt i hi;omega)⟩
     have hUI:=HUL.out.only hsc.o (fun i hi e=>by
      have h9:=HUd.out i hi;simp only [List.mem_cons] at e
      rcases e with e|e|e
      ·exact h9.1 e
      ·exact h9.2.1 e
      ·exact h9.2.2 e)
     have HU9:=zh hU9;have HUw:=zh hUI;have Hsk:=zh hsc;have hrq:wr.rangeAt bq 0 XL:=by
      rw [HXL.out];exact zAN (o:=0) (len:=28) Hy.out.2.2.1 x2 (fun i _=>by rw [Nat.zero_add]) (by decide)
     have HRQ:=zh hrq;clear hsc hU9 hUI hrq;have k0:=Hsk.out.k0;obtain rfl|rfl|rfl:k=0∨k=1∨k=2:=by omega
     ·have HmR:Hid (MotZ c.wr shape G (fun u j=>R0 shape y u j∨(0<0∧j=1)∨(1<0∧j=2)) 0 z2):=zh Hy.out.2.1;have Hy4:=zh Hy.out.2.2.2;have HsR:Hid (Scene c F1 w2 wr kb sb mb (zV S z2) (zAz 20 28 (fun i=> .int .i64 (x2 i)) (upd X 1 (.int .i64 shape))) n (zG ds) F3 (ZM (a0-1) 0 (fun p=>y (20+7*p)) G (ZD shape)++(ZM (a1-1) 1 (fun p=>y (20+7*p)) G (ZD shape)++(ZI B0 0 (fun p=>y (20+7*p)) G (ZD shape) 0++(ZI B1 1 (fun p=>y (20+7*p)) G (ZD shape) 0++r))))):=zh (by
       have h9:=Hsk.out;rw [if_pos rfl,Hrest.out] at h9;exact h9)
      clear Hsk
      go_wp2_with (refine zAQ 159 rfl ?_)
      refine ⟨?_⟩;refine wpList_load_mid rfl _ _ rfl bq 0 rfl XL _ HRQ.out Tryz.underlying46 rfl HI28.out ?_;simp only [Act.put,List.setIfInBounds_toArray,List.set_cons_zero,List.set_cons_succ]
      go_wp2_with fail
      rw [show Value.agg XL.toArray=.agg (fnA 28 (fun i=> .int .i64 (x2 i))) by rw [HXL.out];rfl];refine (zKw (Dn:=(fun p=>y (20+7*p))) HC.out HsR.out.here HS.out Hone.out HmR.out (fun u=> .inl (zFV shape y u)) HUw.out HU9.out H7.out H8.out Ba.out (fun p hp=>Hdz.out.got p hp (by rw [HLL.out];exact Zn HS.out p hp)) (fun hw p j hp hj h3=>by rw [HG.out];exact Hdz.out.wrote hw hp hj h3) (fun p _ h3=>by rw [HG.out];exact zLW h3)
       (fun p hp hh=>by rw [HG.out];exact zNb Hp.out (l:=0) (by decide) hp hh) (fun p hp hh=> .inl (zGE HS.out HU.out (l:=0) (by decide) hp hh).1)).mono ?_
      rintro e wy ⟨rfl,F4,z4,hsc4,hm4⟩;have hbq4:BlkIn wy bq 28 46 (fun i=> .int .i64 (x2 i)):=HBk.out.only hsc4.o (by
       simp only [List.mem_cons,not_or];exact ⟨Hbn.out.2.1,Hbn.out.2.2.1,Hy4.out⟩)
      have hb4:bq∉F4:=fun h=>(hsc4.n _ h).elim Hy4.out (fun h=>by have:=HBk.out.lt;omega)
      have HE:Hid (Scene c F1 w2 wy kb sb mb (zV S z4) (zAz 20 28 (fun i=> .int .i64 (x2 i)) (upd X 1 (.int .i64 shape))) n (zG ds) F4 (if 1=0 then rest else if 1=1 then (ZM (a1-1) 1 (fun p=>y (20+7*p)) G (ZD shape)++(ZI B0 0 (fun p=>y (20+7*p)) G (ZD shape) 0++(ZI B1 1 (fun p=>y (20+7*p)) G (ZD shape) 0++r))) else (ZI B0 0 (fun p=>y (20+7*p)) G (ZD shape) 0++(ZI B1 1 (fun p=>y (20+7*p)) G (ZD shape) 0++r)))∧MotZ c.wr shape G (fun u j=>R0 shape y u j∨(0<1∧j=1)∨(1<1∧j=2)) 0 z4∧BlkIn wy bq 28 46 (fun i=> .int .i64 (x2 i))∧bq∉F4):=zh ⟨HsR.out.trans hsc4,hm4.mono (fun u j _ h=>by
       rcases h with h|h|h
       ·exact .inl (.inl h)
       ·exact .inr h.2
       ·exact absurd h.1 (by decide)) HS.out,hbq4,hb4⟩
      clear hsc4 hm4 hbq4 hb4
      go_wp2_with fail
      exact ⟨⟨1,F4,z4,by decide,rfl,HE⟩,by simp [intOf]⟩
     ·have HmR:Hid (MotZ c.wr shape G (fun u j=>R0 shape y u j∨(0<1∧j=1)∨(1<1∧j=2)) 0 z2):=zh Hy.out.2.1;have Hy4:=zh Hy.out.2.2.2;have HsR:Hid (Scene c F1 w2 wr kb sb mb (zV S z2) (zAz 20 28 (fun i=> .int .i64 (x2 i)) (upd X 1 (.int .i64 shape))) n (zG ds) F3 (ZM (a1-1) 1 (fun p=>y (20+7*p)) G (ZD shape)++(ZI B0 0 (fun p=>y (20+7*p)) G (ZD shape) 0++(ZI B1 1 (fun p=>y (20+7*p)) G (ZD shape) 0++r)))):=zh (by
       have h9:=Hsk.out;rw [if_neg (by decide),if_pos rfl] at h9;exact h9)
      clear Hsk
      go_wp2_with (refine zAQ 159 rfl ?_)
      refine ⟨?_⟩;refine wpList_load_mid rfl _ _ rfl bq 0 rfl XL _ HRQ.out Tryz.underlying46 rfl HI28.out ?_;simp only [Act.put,List.setIfInBounds_toArray,List.set_cons_zero,List.set_cons_succ]
      go_wp2_with fail
      rw [show Value.agg XL.toArray=.agg (fnA 28 (fun i=> .int .i64 (x2 i))) by rw [HXL.out];rfl];refine (zKv (Dn:=(fun p=>y (20+7*p))) HC.out HsR.out.here HS.out Hone.out HmR.out (fun u=> .inl (zFV shape y u)) HUw.out HU9.out H7.out H8.out Ba.out (fun p hp=>Hdz.out.got p hp (by rw [HLL.out];exact Zn HS.out p hp)) (fun hw p j hp hj h3=>by rw [HG.out];exact Hdz.out.wrote hw hp hj h3) (fun p _ h3=>by rw [HG.out];exact zLW h3)
       (fun p hp hh=>by rw [HG.out];exact zNb Hp.out (l:=1) (by decide) hp hh) (fun p hp hh=> .inl (zGE HS.out HU.out (l:=1) (by decide) hp hh).1)).mono ?_
      rintro e wy ⟨rfl,F4,z4,hsc4,hm4⟩;have hbq4:BlkIn wy bq 28 46 (fun i=> .int .i64 (x2 i)):=HBk.out.only hsc4.o (by
       simp only [List.mem_cons,not_or];exact ⟨Hbn.out.2.1,Hbn.out.2.2.1,Hy4.out⟩)
      have hb4:bq∉F4:=fun h=>(hsc4.n _ h).elim Hy4.out (fun h=>by have:=HBk.out.lt;omega)
      have HE:Hid (Scene c F1 w2 wy kb sb mb (zV S z4) (zAz 20 28 (fun i=> .int .i64 (x2 i)) (upd X 1 (.int .i64 shape))) n (zG ds) F4 (if 2=0 then rest else if 2=1 then (ZM (a1-1) 1 (fun p=>y (20+7*p)) G (ZD shape)++(ZI B0 0 (fun p=>y (20+7*p)) G (ZD shape) 0++(ZI B1 1 (fun p=>y (20+7*p)) G (ZD shape) 0++r))) else (ZI B0 0 (fun p=>y (20+7*p)) G (ZD shape) 0++(ZI B1 1 (fun p=>y (20+7*p)) G (ZD shape) 0++r)))∧MotZ c.wr shape G (fun u j=>R0 shape y u j∨(0<2∧j=1)∨(1<2∧j=2)) 0 z4∧BlkIn wy bq 28 46 (fun i=> .int .i64 (x2 i))∧bq∉F4):=zh ⟨HsR.out.trans hsc4,hm4.mono (fun u j _ h=>by
       rcases h with h|h|h
       ·exact .inl (.inl h)
       ·exact .inl (.inr (.inl ⟨by decide,h.2⟩))
       ·exact .inr h.2) HS.out,hbq4,hb4⟩
      clear hsc4 hm4 hbq4 hb4
      go_wp2_with fail
      exact ⟨⟨2,F4,z4,by decide,rfl,HE⟩,by simp [intOf]⟩
     ·clear HRQ HUw HU9;rw [show ((2:Nat):Int)=(2:Int) from rfl]
      go_wp2_with fail
      go_loopw [163] (fun s wx=>∃ (k:Nat) (F3:List Nat) (z2:Nat→Int) (kz:Int),k≤2∧s=.int .i64 (k:Int)∧Hid (Scene c F1 w2 wx kb sb mb (zV S z2) (zAz 20 28 (fun i=> .int .i64 (x2 i)) (upd X 1 (.int .i64 shape))) n (zG ds) F3 (if k=0 then (ZI B0 0 (fun p=>y (20+7*p)) G (ZD shape) 0++(ZI B1 1 (fun p=>y (20+7*p)) G (ZD shape) 0++r)) else if k=1 then (ZI B1 1 (fun p=>y (20+7*p)) G (ZD shape) 0++r) else r)∧MotZ c.wr shape G (fun u j=>R0 shape y u j∨j=1∨j=2∨(0<k∧(j=3∨j=4))∨(1<k∧(j=5∨j=6))) kz z2∧BlkIn wx bq 28 46 (fun i=> .int .i64 (x2 i))∧bq∉F3)) (fun s _=>(2-intOf s).toNat)
      case atStart=>
       have h9:=Hsk.out;rw [if_neg (by decide),if_neg (by decide)] at h9;exact ⟨0,F3,z2,0,by decide,rfl,zh ⟨h9,Hy.out.2.1.mono (fun u j _ h=>by
        rcases h with h|h|h|h|h
        ·exact .inl h
        ·exact .inr (.inl ⟨by decide,h⟩)
        ·exact .inr (.inr ⟨by decide,h⟩)
        ·exact absurd h.1 (by decide)
        ·exact absurd h.1 (by decide)) HS.out,HBk.out,Hy.out.2.2.2⟩⟩
      case round=>
       clear HBk Hsk k0 Hy;obtain ⟨k,F3,z2,kz,hk,rfl,Hy⟩:=hrel;have HBk:=zh Hy.out.2.2.1;have hsc:=Hy.out.1;have hU9:∀ i∈U,i≠sb∧i≠mb∧i∉F3:=fun i hi=>⟨(HUd.out i hi).1,(HUd.out i hi).2.1,fun h=>(hsc.n i h).elim (HUd.out i hi).2.2 (fun h=>by have:=HUI.out.lt i hi;omega)⟩
       have hUI:=HUL.out.only hsc.o (fun i hi e=>by
        have h9:=HUd.out i hi;simp only [List.mem_cons] at e
        rcases e with e|e|e
        ·exact h9.1 e
        ·exact h9.2.1 e
        ·exact h9.2.2 e)
       have HU9:=zh hU9;have HUw:=zh hUI;have Hsk:=zh hsc;have hrq:wr.rangeAt bq 0 XL:=by
        rw [HXL.out];exact zAN (o:=0) (len:=28) Hy.out.2.2.1 x2 (fun i _=>by rw [Nat.zero_add]) (by decide)
       have HRQ:=zh hrq;clear hsc hU9 hUI hrq;have k0:=Hsk.out.k0;obtain rfl|rfl|rfl:k=0∨k=1∨k=2:=by omega
       ·have HmR:Hid (MotZ c.wr shape G (fun u j=>R0 shape y u j∨j=1∨j=2∨(0<0∧(j=3∨j=4))∨(1<0∧(j=5∨j=6))) kz z2):=zh Hy.out.2.1;have Hy4:=zh Hy.out.2.2.2;have HsR:Hid (Scene c F1 w2 wr kb sb mb (zV S z2) (zAz 20 28 (fun i=> .int .i64 (x2 i)) (upd X 1 (.int .i64 shape))) n (zG ds) F3 (ZI B0 0 (fun p=>y (20+7*p)) G (ZD shape) 0++(ZI B1 1 (fun p=>y (20+7*p)) G (ZD shape) 0++r))):=zh (by
         have h9:=Hsk.out;rw [if_pos rfl] at h9;exact h9)
        clear Hsk
        go_wp2_with (refine zAQ 168 rfl ?_)
        refine ⟨?_⟩;refine wpList_load_mid rfl _ _ rfl bq 0 rfl XL _ HRQ.out Tryz.underlying46 rfl HI28.out ?_;simp only [Act.put,List.setIfInBounds_toArray,List.set_cons_zero,List.set_cons_succ]
        go_wp2_with fail
        rw [show Value.agg XL.toArray=.agg (fnA 28 (fun i=> .int .i64 (x2 i))) by rw [HXL.out];rfl];refine (zFm (Dn:=(fun p=>y (20+7*p))) 0 (by decide) HC.out HsR.out.here (fun k first=>by rw [HB0.out k first];try rfl) HS.out Hone.out HmR.out (fun u=> .inl (zFV shape y u)) (fun u=> .inr (.inl rfl)) HUw.out HU9.out H0.out H21.out Hbd.out.1 Hbd.out.2.1 Hbd.out.2.2 Hds.out (by rw [zBg _ _ _ (by decide),ZK]) (fun p hp=>Hdz.out.got p hp (by rw [HLL.out];exact Zn HS.out p hp)) (fun hw p j hp hj h3=>by rw [HG.out];exact Hdz.out.wrote hw hp hj h3) Hxs.out (fun p _ h3=>by rw [HG.out];exact zLW h3)
         (fun p hp hh=>by rw [HG.out];exact zOC Hp.out (l:=0) (by decide) hp hh) HBr0.out (fun p hp hh=>⟨.inl (zGE HS.out HU.out (l:=0) (by decide) hp hh).2.1,.inl (zGE HS.out HU.out (l:=0) (by decide) hp hh).2.2⟩)).mono ?_
        rintro e wy ⟨rfl,F4,z4,kz4,hsc4,hm4⟩;have hbq4:BlkIn wy bq 28 46 (fun i=> .int .i64 (x2 i)):=HBk.out.only hsc4.o (by
         simp only [List.mem_cons,not_or];exact ⟨Hbn.out.2.1,Hbn.out.2.2.1,Hy4.out⟩)
        have hb4:bq∉F4:=fun h=>(hsc4.n _ h).elim Hy4.out (fun h=>by have:=HBk.out.lt;omega)
        have HE:Hid (Scene c F1 w2 wy kb sb mb (zV S z4) (zAz 20 28 (fun i=> .int .i64 (x2 i)) (upd X 1 (.int .i64 shape))) n (zG ds) F4 (if 1=0 then (ZI B0 0 (fun p=>y (20+7*p)) G (ZD shape) 0++(ZI B1 1 (fun p=>y (20+7*p)) G (ZD shape) 0++r)) else if 1=1 then (ZI B1 1 (fun p=>y (20+7*p)) G (ZD shape) 0++r) else r)∧MotZ c.wr shape G (fun u j=>R0 shape y u j∨j=1∨j=2∨(0<1∧(j=3∨j=4))∨(1<1∧(j=5∨j=6))) kz4 z4∧BlkIn wy bq 28 46 (fun i=> .int .i64 (x2 i))∧bq∉F4):=zh ⟨HsR.out.trans hsc4,hm4.mono (fun u j _ h=>by
         rcases h with h|h|h|h|h
         ·exact .inl (.inl h)
         ·exact .inl (.inr (.inl h))
         ·exact .inl (.inr (.inr (.inl h)))
         ·exact .inr h.2
         ·exact absurd h.1 (by decide)) HS.out,hbq4,hb4⟩
        clear hsc4 hm4 hbq4 hb4
        go_wp2_with fail
        exact ⟨⟨1,F4,z4,kz4,by decide,rfl,HE⟩,by simp [intOf]⟩
       ·have HmR:Hid (MotZ c.wr shape G (fun u j=>R0 shape y u j∨j=1∨j=2∨(0<1∧(j=3∨j=4))∨(1<1∧(j=5∨j=6))) kz z2):=zh Hy.out.2.1;have Hy4:=zh Hy.out.2.2.2;have HsR:Hid (Scene c F1 w2 wr kb sb mb (zV S z2) (zAz 20 28 (fun i=> .int .i64 (x2 i)) (upd X 1 (.int .i64 shape))) n (zG ds) F3 (ZI B1 1 (fun p=>y (20+7*p)) G (ZD shape) 0++r)):=zh (by
         have h9:=Hsk.out;rw [if_neg (by decide),if_pos rfl] at h9;exact h9)
        clear Hsk
        go_wp2_with (refine zAQ 168 rfl ?_)
        refine ⟨?_⟩;refine wpList_load_mid rfl _ _ rfl bq 0 rfl XL _ HRQ.out Tryz.underlying46 rfl HI28.out ?_;simp only [Act.put,List.setIfInBounds_toArray,List.set_cons_zero,List.set_cons_succ]
        go_wp2_with fail
        rw [show Value.agg XL.toArray=.agg (fnA 28 (fun i=> .int .i64 (x2 i))) by rw [HXL.out];rfl];refine (zFm (Dn:=(fun p=>y (20+7*p))) 1 (by decide) HC.out HsR.out.here (fun k first=>by rw [HB1.out k first];try rfl) HS.out Hone.out HmR.out (fun u=> .inl (zFV shape y u)) (fun u=> .inr (.inr (.inl rfl))) HUw.out HU9.out H0.out H21.out Hbd.out.1 Hbd.out.2.1 Hbd.out.2.2 Hds.out (by rw [zBg _ _ _ (by decide),ZK]) (fun p hp=>Hdz.out.got p hp (by rw [HLL.out];exact Zn HS.out p hp)) (fun hw p j hp hj h3=>by rw [HG.out];exact Hdz.out.wrote hw hp hj h3) Hxs.out (fun p _ h3=>by rw [HG.out];exact zLW h3)
         (fun p hp hh=>by rw [HG.out];exact zOC Hp.out (l:=1) (by decide) hp hh) HBr1.out (fun p hp hh=>⟨.inl (zGE HS.out HU.out (l:=1) (by decide) hp hh).2.1,.inl (zGE HS.out HU.out (l:=1) (by decide) hp hh).2.2⟩)).mono ?_
        rintro e wy ⟨rfl,F4,z4,kz4,hsc4,hm4⟩;have hbq4:BlkIn wy bq 28 46 (fun i=> .int .i64 (x2 i)):=HBk.out.only hsc4.o (by
         simp only [List.mem_cons,not_or];exact ⟨Hbn.out.2.1,Hbn.out.2.2.1,Hy4.out⟩)
        have hb4:bq∉F4:=fun h=>(hsc4.n _ h).elim Hy4.out (fun h=>by have:=HBk.out.lt;omega)
        have HE:Hid (Scene c F1 w2 wy kb sb mb (zV S z4) (zAz 20 28 (fun i=> .int .i64 (x2 i)) (upd X 1 (.int .i64 shape))) n (zG ds) F4 (if 2=0 then (ZI B0 0 (fun p=>y (20+7*p)) G (ZD shape) 0++(ZI B1 1 (fun p=>y (20+7*p)) G (ZD shape) 0++r)) else if 2=1 then (ZI B1 1 (fun p=>y (20+7*p)) G (ZD shape) 0++r) else r)∧MotZ c.wr shape G (fun u j=>R0 shape y u j∨j=1∨j=2∨(0<2∧(j=3∨j=4))∨(1<2∧(j=5∨j=6))) kz4 z4∧BlkIn wy bq 28 46 (fun i=> .int .i64 (x2 i))∧bq∉F4):=zh ⟨HsR.out.trans hsc4,hm4.mono (fun u j _ h=>by
         rcases h with h|h|h|h|h
         ·exact .inl (.inl h)
         ·exact .inl (.inr (.inl h))
         ·exact .inl (.inr (.inr (.inl h)))
         ·exact .inl (.inr (.inr (.inr (.inl ⟨by decide,h.2⟩))))
         ·exact .inr h.2) HS.out,hbq4,hb4⟩
        clear hsc4 hm4 hbq4 hb4
        go_wp2_with fail
        exact ⟨⟨2,F4,z4,kz4,by decide,rfl,HE⟩,by simp [intOf]⟩
       ·have hall:∀ i,i<28→z2 (18+i)=G i:=fun i hi=>by
         have h9:=Hy.out.2.1.got (i/7) (i%7) (by omega) (by omega) (by
          have h7:i%7<7:=by omega
          obtain h|h|h|h|h|h|h:i%7=0∨i%7=1∨i%7=2∨i%7=3∨i%7=4∨i%7=5∨i%7=6:=by omega
          ·rw [h];exact .inl (zFV shape y _)
          ·exact .inr (.inl h)
          ·exact .inr (.inr (.inl h))
          ·exact .inr (.inr (.inr (.inl ⟨by decide,.inl h⟩)))
          ·exact .inr (.inr (.inr (.inl ⟨by decide,.inr h⟩)))
          ·exact .inr (.inr (.inr (.inr ⟨by decide,.inl h⟩)))
          ·exact .inr (.inr (.inr (.inr ⟨by decide,.inr h⟩))))
         rwa [show 7*(i/7)+i%7=i by omega] at h9
        obtain ⟨GL,hGL⟩:∃ l,l=(List.range 28).map (fun i=>Value.int .i64 (G i)):=⟨_,rfl⟩;have HGR:Hid (wr.rangeAt sb 42 GL):=zh (by
         rw [hGL];exact zAN (o:=42) (len:=28) Hsk.out.s G (fun i hi=>by rw [show 42+i=24+(18+i) by omega,zB4,hall i hi]) (by decide))
        have HIG:Hid ((Tryz.prog.info? 46).map (·.size)=some GL.length):=zh (by rw [hGL,List.length_map,List.length_range];kernel_rfl);have HGe:Hid (Value.agg GL.toArray=.agg (fnA 28 (fun i=> .int .i64 (G i)))):=zh (by rw [hGL];rfl);have HsE:Hid (Scene c F1 w2 wr kb sb mb (zV S z2) (zAz 20 28 (fun i=> .int .i64 (x2 i)) (upd X 1 (.int .i64 shape))) n (zG ds) F3 r):=zh (by
         have h9:=Hsk.out;rw [if_neg (by decide),if_neg (by decide)] at h9;exact h9)
        clear hall hGL HRQ HUw HU9 HBk Hsk Hy
        go_wp2_with (refine zAQ 180 rfl ?_)
        refine ⟨?_⟩;refine wpList_load_mid rfl _ _ rfl sb 42 rfl GL _ HGR.out Tryz.underlying46 rfl HIG.out ?_;simp only [Act.put,List.setIfInBounds_toArray,List.set_cons_zero,List.set_cons_succ]
        (refine wpList_step (fun K hK=>?_);rw [if_pos (by rfl)];go_simp;refine hK _ _ ?_;clear hK K)
        (refine wpList_step (fun K hK=>?_);rw [if_pos (by rfl)];go_simp;refine hK _ _ ?_;clear hK K)
        refine Zj rfl _ _ _ rfl mb 20 28 483 (fun i=> .int .i64 (G i)) _ rfl HGe.out HsE.out.m (by kernel_rfl) (by decide) (fun _=>rfl) fun wZ hZ oZ=>?_
        have hsZ:=HsE.out.newM HC.out hZ oZ;rw [zMm] at hsZ;have HsZ:=zh hsZ;clear hsZ hZ oZ HsE;simp only [Act.put];go_wp2;go_end0;exact ⟨rfl,F3,z2,Hbase.out.trans HsZ.out⟩
end Go.Proofs.YtcppbdlmcbjmeaaGreatDoor
