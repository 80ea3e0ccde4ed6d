/- Lemmas that the law needs, part 25. -/
import Derived.Test.YtcppbdlmcbjmeaaGreatDoorK24
set_option maxHeartbeats 12800000
set_option maxRecDepth 100000
namespace Go.Proofs.YtcppbdlmcbjmeaaGreatDoor
open Go.RowKit
structure zMA (ds:List DoneP) (f wide n L H:Nat) (p d inc:Int) (y:Nat→Int):Prop where
 hl:L≤15
 hl1:y 0=1→L=0∨L=15
 hh:H≤2
 hcbp:y 48=L+16*H
 hinc:inc=zl (decide (0<zBf ds (Zb f wide n)))
 hds:∀ e∈ds,0≤e.cbp∧e.cbp≤47
 hp:0≤p∧p≤51
 hd:-26≤d∧d≤25
 hq:y 49=(p+d+52)%52
 hyq:0≤y 49∧y 49≤51
 hz:∀ j,48≤j→j<482→¬ zAa (y 0) L H j→y j=0
def zA2 (t:Int) (ds:List DoneP) (f wide n:Nat) (sp:Bool) (y G:Nat→Int):Nat→Int:=fun i=>if y 0=4 then G i else if y 0=5 then zAv t ds f wide n sp (i%7) else y (20+i)
def zM4 (c:Cod) (F:List Nat) (w:World) (sb mb:Nat) (S X:Nat→Value) (n:Nat) (ds:List DoneP) (r:List Ask) (t:Int) (f wide:Nat) (sp:Bool) (y G ps:Nat→Int) (e:Ending) (w':World):Prop:=
 e=.returned (.tuple #[])∧∃ (v':Value) (z':Nat→Int) (F':List Nat) (Xf:Nat→Value) (G':List Nat),
  Ran c F w w' sb mb (zV (upd (if y 0≠2∧zAg (y 0) (y 48)=true then upd S 22 (.int .i64 (y 49)) else S) 23 v') z') Xf (n+1) (zG (ds++[⟨y 0,y 48,fun i=>y (2+i),zA2 t ds f wide n sp y G⟩])) F' r G'∧
  (∀ j,j<482→Xf j=.int .i64 (if 20≤j∧j<48 then zA2 t ds f wide n sp y G (j-20) else y j))∧(y 0≠2→Xf 482=X 482∧G'=(S 23).ownBlock.toList)∧
  (y 0=2→∃ pb cap,Xf 482=.slice (some ⟨pb,0,none⟩) 384 cap∧PcmIs w' pb ps∧pb∉F'∧(w.heap.size≤pb∨∃ cap',X 482=.slice (some ⟨pb,0,none⟩) 384 cap')∧G'=pb::(S 23).ownBlock.toList)
theorem zHg {c:Cod} {F:List Nat} {w:World} {kb sb mb n f wide off:Nat} {S X:Nat→Value} {ds:List DoneP} {r kr:List Ask} {z x y ps G:Nat→Int} {t p d inc a0 a1:Int} {sp:Bool} {L H:Nat} {B0 B1:Nat→Nat→Int×Int} {KL:List Int} (hc:c.Ok)
 (h:Scene c F w w kb sb mb (zV S z) X n (zG ds) F ((if t=2 then [] else [.elem 0 (zAH (fun k=>k != 3) ds f wide n) 0 1])++(.elem 1 (zAH za ds f wide n) (zF5 (y 0) KL 0:Nat) ((5-off:Nat)-1)::kr)))
 (hkr:kr=if y 0=2 then zCw ((List.range 384).map ps)++r else (if y 0=1 then [.elem 4 0 (y 18) 3] else if y 0=0 then ZS (fun b=>zAd (zAs ds f wide n (fun i=>y (2+i)) b) (y (2+b))) 16 else if y 0=4 then zE1 t (y 1) a0 a1 B0 B1 (fun p=>y (20+7*p)) G else [])++((if za (y 0)=true then [.elem 5 0 (y 19) 3] else [])++(zAB (y 0) L H d inc y++r)))
 (h0:S 0=.int .i64 f) (h21:S 21=.int .i64 wide) (bf:f≤1000000) (bwd:1≤wide∧wide≤1000000) (bn:n≤1000000) (hds:ds.length=n) (h2:S 2=.int .i64 t) (ht:(t=0∧off=1)∨(t=1∧off=0)∨(t=2∧off=2)) (hKL:KL=kAll.drop off)
 (hk3:y 0≠3) (hix:zF5 (y 0) KL 0<5-off∧KL.getD (zF5 (y 0) KL 0) 0=y 0) (hg:MbGiven c.wr X x y)
 (hk:y 0=0∨y 0=1∨y 0=2∨y 0=4∨y 0=5) (hz:∀ j,j<48→j≠0→j≠19→¬ ((y 0=4∧(j=1∨20≤j))∨(y 0=0∧2≤j∧j<18)∨(y 0=1∧j=18))→y j=0)
 (h6:S 6=.bool sp) (h7:S 7=.int .i64 a0) (h8:S 8=.int .i64 a1) (ba:(0≤a0∧a0≤8)∧0≤a1∧a1≤8) (hm:y 0=4→zNo ds f wide n sp t a0 a1 B0 B1 y G)
 (hmd:y 0=0→(∀ i,i<16→0≤y (2+i)∧y (2+i)≤8)∧∀ i,i<16→0≤zAs ds f wide n (fun i=>y (2+i)) i∧zAs ds f wide n (fun i=>y (2+i)) i≤8) (h19:za (y 0)=false→y 19=0)
 (hr:y 0≠2→zMA ds f wide n L H p d inc y) (h22:S 22=.int .i64 p) (ht5:y 0=5→t=1)
 (hp2:y 0=2→(∀ i,i<384→0≤ps i∧ps i≤255)∧((c.wr=false∧X 482=.slice none 0 0)∨∃ (pb cap:Nat) (q:Nat→Int),X 482=.slice (some ⟨pb,0,none⟩) 384 cap∧PcmIs w pb q∧pb∉F∧(c.wr=true→∀ i,i<384→q i=ps i))∧∀ j,j<482→j≠0→y j=0):
 Calls Tryz.prog 37 #[.pointer (some ⟨kb,0,none⟩)] w (zM4 c F w sb mb S X n ds r t f wide sp y G ps):=by
 have mE:=hc.mE;have eE:=hc.eE;have HC:=zh hc;have HS:=zh h;have H0:=zh h0;have H21:=zh h21;have Hbd:=zh (And.intro bf (And.intro bwd bn));have Hds:=zh hds;have H2:=zh h2;have Ht:=zh ht;have Hk3:=zh hk3;have Hg:=zh hg;have Hkr:=zh hkr;have Hk:=zh hk;have Hz:=zh hz;have H6:=zh h6;have H7:=zh h7;have H8:=zh h8;have Ba:=zh ba;have Hm:=zh hm;have Hmd:=zh hmd;have H19:=zh h19;have Hr:=zh hr;have H22:=zh h22;have Ht5:=zh ht5;have HKL:=zh hKL;have Hp2:=zh hp2;have Hpq:Hid (∀ pb q,PcmIs w pb q→pb≠sb∧pb≠mb):=zh (fun pb q h1=>⟨(h1.ne h).2.1,(h1.ne h).2.2.1⟩);obtain ⟨n5,hn5⟩:∃ q,q=5-off:=⟨_,rfl⟩;have hoff:off≤2∧3≤n5∧n5≤5∧off+n5=5:=by omega
 obtain ⟨ix,hixd⟩:∃ q,q=zF5 (y 0) KL 0:=⟨_,rfl⟩;rw [←hixd,←hn5] at hix;have hixl:=hix.1;have HKy:=zh hix.2;have Hix:Hid (zF5 (y 0) KL 0=ix):=zh hixd.symm;have HKl:Hid (KL.length=n5):=zh (by rw [hKL,List.length_drop,hn5];rfl);have k0:=h.k0;have k2:=h.k2;have s2:w.cell? ⟨sb,2,none⟩=some (.int .i64 t):=by rw [h.s.cell 2 (by decide),zI _ _ (by decide),h2]
 have Hn5:=zh hn5;rw [←hixd] at HS;clear h hc h0 h21 bf bwd bn hds h2 hk3 ht hg hKL hix hixd hn5 hkr hk hz h6 h7 h8 ba hm hmd h19 hr h22 ht5 hp2
 go_enter Tryz.func37,Tryz.ntmps37
 go_upto_if 18 with fail
 go_cut [] (fun wx=>∃ F1,Hid (Scene c F w wx kb sb mb (zV S z) X n (zG ds) F1 (.elem 1 (zAH za ds f wide n) ix ((5-off:Nat)-1)::kr)))
 case first=>
  by_cases h2:t=2
  ·have b2:(t != 2)=false:=by rw [h2];rfl
   have HSz:Hid (Scene c F w w kb sb mb (zV S z) X n (zG ds) F (.elem 1 (zAH za ds f wide n) ix ((5-off:Nat)-1)::kr)):=zh (by
    have h9:=HS.out;rw [if_pos h2] at h9;exact h9)
   go_wp2_with fail
   go_meet;exact ⟨F,HSz⟩
  ·have b2:(t != 2)=true:=by simpa using h2
   have HSz:Hid (Scene c F w w kb sb mb (zV S z) X n (zG ds) F (.elem 0 (zAH (fun k=>k != 3) ds f wide n) 0 1::(.elem 1 (zAH za ds f wide n) ix ((5-off:Nat)-1)::kr))):=zh (by
    have h9:=HS.out;rw [if_neg h2] at h9;exact h9)
   clear HS
   go_wp2_with fail
   refine (zGT (A:=fun k=>k != 3) (HSz.out.st (by rw [zI _ _ (by decide)];exact H0.out) (by rw [zI _ _ (by decide)];exact H21.out) Hbd.out.1 Hbd.out.2.1 Hbd.out.2.2) Hds.out (fun args w=>ZZ Tryz.func63 (by kernel_rfl) (by kernel_rfl) args w) (fun g o k w hh=>zJp g o k w hh)).mono ?_;rintro e w1 ⟨rfl,ho1⟩;have hs1:=HSz.out.same HC.out ho1;obtain ⟨cn,hcn⟩:∃ cn,cn=zAH (fun k=>k != 3) ds f wide n:=⟨_,rfl⟩;rw [←hcn] at hs1 ⊢;have HS1:=zh hs1;have hS3:(fun w':World=>w'.cell? ⟨kb,1,none⟩=some (.iface c.T c.pv)∧w'.cell? ⟨mb,0,none⟩=some (.int .i64 (x 0))) w1.drew:=⟨hs1.k1,by
    show w1.cell? ⟨mb,0,none⟩=_
    rw [hs1.m.cell 0 (by decide),Hg.out.cell 0 (by decide)]⟩
   clear hs1 ho1 hcn k0 k2 s2
   go_upto_region 3 with fail
   refine zH (by kernel_rfl) (fun w':World=>w'.cell? ⟨kb,1,none⟩=some (.iface c.T c.pv)∧w'.cell? ⟨mb,0,none⟩=some (.int .i64 (x 0))) 14 ?_;have hS0:=hS3;refine AnyL.tk 0 (h:=?_);refine AnyL.tk 1 (h:=?_);refine AnyL.tk 2 (h:=?_);refine AnyL.tk 3 (h:=?_);refine AnyL.tk 4 (h:=?_);refine AnyL.tk 5 (h:=?_);refine AnyL.tk 6 (h:=?_);refine AnyL.tk 7 (h:=?_);refine AnyL.tk 8 (h:=?_);refine AnyL.tk 9 (h:=?_);refine AnyL.tk 11 (h:=?_);refine AnyL.tk 12 (h:=?_);refine AnyL.on 10 (h:=fun K hK=>?_);go_simp;refine (zBz _ _).mono ?_;rintro e w3 ⟨rfl,rfl⟩;refine hK _ _ (fun _=>hS0) (fun hKq=>?_);clear hK K hKq
   try simp only [zpt]
   refine AnyL.on 13 (h:=fun K hK=>?_);go_simp;refine ((HS1.out.drew HC.out).here.elem HC.out (zl (x 0==3)) (fun hw=>by rw [Hg.out.told hw 0 (by decide),show (y 0==3)=false by simpa using Hk3.out];rfl)).mono ?_;rintro e w4 ⟨rfl,F1,g0⟩;have g1:=(HS1.out.drew HC.out).trans g0;have hSb:(fun w':World=>w'.cell? ⟨kb,1,none⟩=some (.iface c.T c.pv)∧w'.cell? ⟨mb,0,none⟩=some (.int .i64 (x 0))) w4:=⟨g1.k1,by rw [g1.m.cell 0 (by decide),Hg.out.cell 0 (by decide)]⟩;have G1:=zh g1;clear g0 g1;refine hK _ _ (fun _=>hSb) (fun hKq=>?_);clear hK K hKq
   try simp only [zpt]
   refine AnyL.on 14 (h:=fun K hK=>?_);go_simp;refine hK _ _ (fun h=>absurd rfl h) (fun hKq=>?_);clear hK K hKq
   try simp only [zpt]
   refine AnyL.dn (h:=?_);clear hS0 hS3 hSb HS1 HSz
   go_wp2_with fail
   go_meet;exact ⟨F1,G1⟩
 case rest=>
  obtain ⟨F1,hcc⟩:=hcut;have hs:=hcc.out;clear k0 k2 s2 HS;have k0:=hs.k0;have k2:=hs.k2;have s2:wc.cell? ⟨sb,2,none⟩=some (.int .i64 t):=by rw [hs.s.cell 2 (by decide),zI _ _ (by decide),H2.out]
  clear hs
  go_wp2_with fail
  refine (zIG t off Ht.out wc).mono ?_;rintro e wa ⟨rfl,hka,hoa,hza⟩;have hsa:=hcc.out.same HC.out hoa;obtain ⟨gk,hgkd⟩:∃ gk,gk=wc.heap.size:=⟨_,rfl⟩;have hgk:gk∉F1:=fun hm=>by have:=HC.out.low F1 _ _ hcc.out.c _ hm;omega
  have hgkb:gk≠kb∧gk≠sb∧gk≠mb:=by
   have h9:=hcc.out.l;have h10:=hcc.out.o.size;omega
  rw [←hgkd,←Hn5.out];rw [←hgkd] at hka;have Hgk:=zh hgk;have Hgkb:=zh hgkb;have HKa:=zh hka;have HSa:=zh hsa;clear k0 k2 s2;have k0:=hsa.k0;have k2:=hsa.k2;clear hsa hka hoa hza hgkd hgk hgkb
  go_wp2_with fail
  refine (zGT (A:=za) (HSa.out.st (by rw [zI _ _ (by decide)];exact H0.out) (by rw [zI _ _ (by decide)];exact H21.out) Hbd.out.1 Hbd.out.2.1 Hbd.out.2.2) Hds.out (fun args w=>ZZ Tryz.func67 (by kernel_rfl) (by kernel_rfl) args w) (fun g o k w hh=>zMS g o k w hh)).mono ?_;rintro e wb ⟨rfl,hob⟩;have hsb:=HSa.out.same HC.out hob;obtain ⟨cn,hcn⟩:∃ cn,cn=zAH za ds f wide n:=⟨_,rfl⟩;rw [←hcn,←Hn5.out] at hsb;rw [←hcn];have HSb:=zh hsb;have HKb:=zh (hob.heap HKa.out (by simp));have HKc:Hid (∀ wx:World,wx.heap[gk]? =some (.cells (kAll.map (Value.int .i64)).toArray 3 (0,0))→∀ i,i<n5→wx.cell? ⟨gk,off+i,none⟩=some (.int .i64 (KL.getD i 0))):=zh (fun wx hw i hi=>by
   rw [zA hw,HKL.out];obtain h|h|h|h|h:off+i=0∨off+i=1∨off+i=2∨off+i=3∨off+i=4:=by omega
   all_goals
    rw [h,List.getD_eq_getElem?_getD,List.getElem?_drop,h]
    rfl)
  have ql:IntKind.i64.wrap ((n5:Int)-1)=(n5:Int)-1:=sw _ (by omega) (by omega);have ixi:(ix:Int)<(n5:Int):=by omega
  have hS8:(fun w':World=>w'.cell? ⟨kb,1,none⟩=some (.iface c.T c.pv)∧w'.cell? ⟨mb,0,none⟩=some (.int .i64 (x 0))∧(∀ i,i<n5→w'.cell? ⟨gk,off+i,none⟩=some (.int .i64 (KL.getD i 0)))∧w'.cell? ⟨gk,off+ix,none⟩=some (.int .i64 (y 0))) wb.drew:=⟨HSb.out.k1,by
   show wb.cell? ⟨mb,0,none⟩=_
   rw [HSb.out.m.cell 0 (by decide),Hg.out.cell 0 (by decide)],fun i hi=>HKc.out wb HKb.out i hi,by
   show wb.cell? ⟨gk,off+ix,none⟩=_
   rw [HKc.out wb HKb.out ix hixl,HKy.out]⟩
  clear hsb hob hcn k0 k2
  go_upto_region 8 with fail
  refine zH (by kernel_rfl) (fun w':World=>w'.cell? ⟨kb,1,none⟩=some (.iface c.T c.pv)∧w'.cell? ⟨mb,0,none⟩=some (.int .i64 (x 0))∧(∀ i,i<n5→w'.cell? ⟨gk,off+i,none⟩=some (.int .i64 (KL.getD i 0)))∧w'.cell? ⟨gk,off+ix,none⟩=some (.int .i64 (y 0))) 23 ?_;have hS0:=hS8;refine AnyL.tk 0 (h:=?_);refine AnyL.tk 1 (h:=?_);refine AnyL.tk 2 (h:=?_);refine AnyL.tk 3 (h:=?_);refine AnyL.tk 4 (h:=?_);refine AnyL.tk 5 (h:=?_);refine AnyL.tk 6 (h:=?_);refine AnyL.tk 7 (h:=?_);refine AnyL.tk 8 (h:=?_);refine AnyL.tk 9 (h:=?_);refine AnyL.tk 10 (h:=?_);refine AnyL.tk 11 (h:=?_);refine AnyL.tk 13 (h:=?_);refine AnyL.tk 14 (h:=?_);refine AnyL.tk 15 (h:=?_);refine AnyL.tk 16 (h:=?_);refine AnyL.tk 17 (h:=?_);refine AnyL.on 12 (h:=fun K hK=>?_);go_simp;refine (zK4 (x 0) gk off n5 n5 KL wb.drew HKl.out (by omega) hS0.2.2.1).mono ?_;rintro e w3 ⟨rfl,rfl⟩
  refine hK _ _ (fun _=>hS0) (fun hKq=>?_);clear hK K hKq
  try simp only [zpt]
  refine AnyL.on 18 (h:=fun K hK=>?_);go_simp;refine ((HSb.out.drew HC.out).here.elem HC.out (zF5 (x 0) KL 0:Nat) (fun hw=>by rw [Hg.out.told hw 0 (by decide),Hix.out])).mono ?_;rintro e w3 ⟨rfl,F2,g0⟩;have hk3:w3.heap[gk]? =some (.cells (kAll.map (Value.int .i64)).toArray 3 (0,0)):=g0.o.heap (show wb.drew.heap[gk]? =_ from HKb.out) (by
   simp only [List.mem_cons,not_or];exact ⟨Hgkb.out.2.1,Hgkb.out.2.2,Hgk.out⟩)
  have g1:=(HSb.out.drew HC.out).trans g0;have hS9:(fun w':World=>w'.cell? ⟨kb,1,none⟩=some (.iface c.T c.pv)∧w'.cell? ⟨mb,0,none⟩=some (.int .i64 (x 0))∧(∀ i,i<n5→w'.cell? ⟨gk,off+i,none⟩=some (.int .i64 (KL.getD i 0)))∧w'.cell? ⟨gk,off+ix,none⟩=some (.int .i64 (y 0))) w3:=⟨g1.k1,by rw [g1.m.cell 0 (by decide),Hg.out.cell 0 (by decide)],fun i hi=>HKc.out w3 hk3 i hi,by rw [HKc.out w3 hk3 ix hixl,HKy.out]⟩;have z0:=g1.m.free 0;have G2:=zh g1;clear g0 g1 hk3;refine hK _ _ (fun _=>hS9) (fun hKq=>?_);clear hK K hKq
  try simp only [zpt]
  refine AnyL.tk 19 (h:=?_);refine AnyL.tk 20 (h:=?_);refine AnyL.tk 21 (h:=?_);refine AnyL.tk 22 (h:=?_);refine AnyL.on 23 (h:=fun K hK=>?_);go_simp;refine hK _ _ (fun h=>absurd rfl h) (fun hKq=>?_);clear hK K hKq
  try simp only [zpt]
  refine AnyL.dn (h:=?_);rw [show KL[ix]?.getD 0=y 0 by rw [←List.getD_eq_getElem?_getD];exact HKy.out];have hg2:=G2.out.setM HC.out 0 (.int .i64 (y 0));clear hS0 hS8 hS9 z0 HSb HSa hcc HKb HKa G2;generalize w3.setCell ⟨mb,0,none⟩ (.int .i64 (y 0))=w5 at*;have k0:=hg2.k0;have k2:=hg2.k2;have m0:w5.cell? ⟨mb,0,none⟩=some (.int .i64 (y 0)):=by rw [hg2.m.cell 0 (by decide),ZK]
  have HG2:=zh hg2;clear hg2;obtain ⟨kd,hkd⟩:∃ k,k=y 0:=⟨_,rfl⟩;rw [←hkd] at m0;have Hkd:=zh hkd;have hkk:=Hk.out;rw [←hkd] at hkk;have Hkk:=zh hkk;clear hkd hkk
  go_upto_block 0 with fail
  go_cut [] (fun wx=>∃ (F3:List Nat) (z3:Nat→Int) (X3:Nat→Value),Hid (Scene c F w wx kb sb mb (zV S z3) X3 n (zG ds) F3 ((if za (y 0)=true then [.elem 5 0 (y 19) 3] else [])++(zAB (y 0) L H d inc y++r))∧
   (∀ j,j<48→j≠19→X3 j=.int .i64 (if 20≤j∧y 0=4 then G (j-20) else y j))∧X3 19=X 19∧(∀ j,48≤j→X3 j=X j)∧y 0≠2))
  case first=>
   have hself:∀ v,y 0=v→(v=0→False)→(v=1→False)→(v=2→False)→(v=4→False)→∀ j,j<48→j≠19→upd X 0 (.int .i64 (y 0)) j=.int .i64 (if 20≤j∧y 0=4 then G (j-20) else y j):=fun v hv h0 h1 h2 h4 j hj h19=>by
    rw [if_neg (fun h=>h4 (hv.symm.trans h.2))]
    by_cases hj0:j=0
    ·subst hj0;rw [ZK]
    ·rw [ZN _ _ hj0];exact Hg.out.same (by omega) (Hz.out j hj hj0 h19 (by rw [hv];rintro (h|h|h);exact h4 h.1;exact h0 h.1;exact h1 h.1))
   have HSelf:=zh hself;clear hself;have hkk:=Hkk.out
   rcases hkk with rfl|rfl|rfl|rfl|rfl
   ·have e0:=Hkd.out.symm;have hmo:=Hmd.out e0;have h9:=HG2.out;rw [Hkr.out,if_neg (by omega),if_neg (by omega),if_pos e0] at h9;have H9:=zh h9;have HMO:=zh hmo;clear h9 hmo
    go_wp2_with fail
    refine (zKx (own:=fun i=>x (2+i)) HC.out H9.out (by rw [zI _ _ (by decide)];exact H0.out) (by rw [zI _ _ (by decide)];exact H21.out) Hbd.out.1 Hbd.out.2.1 Hbd.out.2.2 HMO.out.1 HMO.out.2 (fun i hi=>by
     rw [ZN _ _ (by omega),Hg.out.cell (2+i) (by omega)];exact ⟨rfl,Hg.out.range (by omega) (HMO.out.1 i hi) (by decide)⟩) (fun hwr i hi=>Hg.out.told hwr (2+i) (by omega))).mono ?_
    rintro e w6 ⟨rfl,F3,hs3⟩;have HE:=zh hs3;clear hs3
    go_wp2_with fail
    go_meet;refine ⟨F3,z,_,zh ⟨HE.out,fun j hj h19=>?_,?_,fun j hj=>?_,by omega⟩⟩
    ·rw [if_neg (fun h=>by omega)]
     by_cases h18:2≤j∧j<18
     ·have h8:=zDs (upd X 0 (.int .i64 (y 0))) (fun i=>y (2+i)) 16 (j-2) (by omega)
      rwa [show 2+(j-2)=j by omega] at h8
     ·rw [zE8 (by omega)]
      by_cases h0:j=0
      ·subst h0;rw [ZK]
      ·rw [ZN _ _ h0];exact Hg.out.same (by omega) (Hz.out j hj h0 h19 (by omega))
    ·rw [zE8 (by omega),ZN _ _ (by decide)]
    ·rw [zE8 (by omega),ZN _ _ (by omega)]
   ·have e1:=Hkd.out.symm;have h9:=HG2.out;rw [Hkr.out,if_neg (by omega),if_pos e1] at h9;have H9:Hid (Scene c F w w5 kb sb mb (zV S z) (upd X 0 (.int .i64 (y 0))) n (zG ds) F2 (.elem 4 0 (y 18) 3::((if za (y 0)=true then [.elem 5 0 (y 19) 3] else [])++(zAB (y 0) L H d inc y++r)))):=zh h9;have hS18:(fun w':World=>w'.cell? ⟨kb,1,none⟩=some (.iface c.T c.pv)∧w'.cell? ⟨mb,18,none⟩=some (.int .i64 (x 18))) w5.drew:=⟨h9.k1,by
     show w5.cell? ⟨mb,18,none⟩=_
     rw [h9.m.cell 18 (by decide),ZN _ _ (by decide),Hg.out.cell 18 (by decide)]⟩
    clear h9
    go_upto_region 18 with fail
    refine zH (by kernel_rfl) (fun w':World=>w'.cell? ⟨kb,1,none⟩=some (.iface c.T c.pv)∧w'.cell? ⟨mb,18,none⟩=some (.int .i64 (x 18))) 14 ?_;have hS0:=hS18;refine AnyL.tk 0 (h:=?_);refine AnyL.tk 1 (h:=?_);refine AnyL.tk 2 (h:=?_);refine AnyL.tk 3 (h:=?_);refine AnyL.tk 4 (h:=?_);refine AnyL.tk 5 (h:=?_);refine AnyL.tk 6 (h:=?_);refine AnyL.tk 7 (h:=?_);refine AnyL.tk 8 (h:=?_);refine AnyL.tk 9 (h:=?_);refine AnyL.tk 10 (h:=?_);refine AnyL.on 11 (h:=fun K hK=>?_);go_simp;refine ((H9.out.drew HC.out).elem HC.out (x 18) (fun hwr=>Hg.out.told hwr 18 (by decide))).mono ?_;rintro e w6 ⟨rfl,F3,g1⟩;have hSb:(fun w':World=>w'.cell? ⟨kb,1,none⟩=some (.iface c.T c.pv)∧w'.cell? ⟨mb,18,none⟩=some (.int .i64 (x 18))) w6:=⟨g1.k1,by rw [g1.m.cell 18 (by decide),ZN _ _ (by decide),Hg.out.cell 18 (by decide)]⟩;have z0:=g1.m.free 18;have G3:=zh g1;clear g1
    refine hK _ _ (fun _=>hSb) (fun hKq=>?_);clear hK K hKq
    try simp only [zpt]
    refine AnyL.tk 12 (h:=?_);refine AnyL.tk 13 (h:=?_);refine AnyL.on 14 (h:=fun K hK=>?_);go_simp;refine hK _ _ (fun h=>absurd rfl h) (fun hKq=>?_);clear hK K hKq
    try simp only [zpt]
    refine AnyL.dn (h:=?_);have hg3:=G3.out.setM HC.out 18 (.int .i64 (y 18));have HE:=zh hg3;clear hS0 hS18 hSb z0 hg3;generalize w6.setCell ⟨mb,18,none⟩ (.int .i64 (y 18))=w7 at*
    go_wp2_with fail
    go_meet;refine ⟨F3,z,_,zh ⟨HE.out,fun j hj h19=>?_,?_,fun j hj=>?_,by omega⟩⟩
    ·rw [if_neg (fun h=>by omega)]
     by_cases h18:j=18
     ·subst h18;rw [ZK]
     ·rw [ZN _ _ h18]
      by_cases h0:j=0
      ·subst h0;rw [ZK]
      ·rw [ZN _ _ h0];exact Hg.out.same (by omega) (Hz.out j hj h0 h19 (by omega))
    ·rw [ZN _ _ (by decide),ZN _ _ (by decide)]
    ·rw [ZN _ _ (by omega),ZN _ _ (by omega)]
   ·have e2:=Hkd.out.symm;have h9:=HG2.out;rw [Hkr.out,if_pos e2] at h9;have H9:=zh h9;have hq:=Hp2.out e2;have HQ:=zh hq;clear h9 hq
    go_wp2_with fail
    refine (zNH HC.out H9.out (by
     rcases HQ.out.2.1 with ⟨h1,h2⟩|⟨pb,cap,q,h1,h2,h3,h4⟩
     ·exact .inl ⟨h1,by rw [ZN _ _ (by decide),h2]⟩
     ·have h5:=Hpq.out pb q h2;exact .inr ⟨pb,cap,q,by rw [ZN _ _ (by decide),h1],h2.only H9.out.o (by simp only [List.mem_cons,not_or];exact ⟨h5.1,h5.2,h3⟩),fun hm=>(H9.out.n pb hm).elim h3 (fun h6=>by have:=h2.lt;omega),h4⟩) HQ.out.1).mono ?_
    rintro e w6 ⟨rfl,F3,pb,cap,g3,hpcm,hpF,ho6,hF3,hnew⟩;have hw6:Only (sb::mb::(F++(pb::(S 23).ownBlock.toList))) w w6:=(H9.out.o.mono (T:=sb::mb::(F++(pb::(S 23).ownBlock.toList))) (fun i hi=>by
     simp only [List.mem_cons,List.mem_append] at hi ⊢
     rcases hi with h|h|h
     ·exact .inl h
     ·exact .inr (.inl h)
     ·exact .inr (.inr (.inl h)))).trans' ho6 (fun i hi=>by
     simp only [List.mem_cons,List.mem_append] at hi ⊢
     rcases hi with h|h|h|h
     ·exact .inl (.inl h)
     ·exact .inl (.inr (.inl h))
     ·exact .inl (.inr (.inr (.inr (.inl h))))
     ·rcases H9.out.n i h with h5|h5
      ·exact .inl (.inr (.inr (.inl h5)))
      ·exact .inr h5)
    have hF30:∀ i∈F3,i∈F∨w.heap.size≤i:=fun i hi=>(hF3 i hi).elim (H9.out.n i) (fun h=> .inr (Nat.le_trans H9.out.o.size h))
    have hnew2:w.heap.size≤pb∨∃ cap',X 482=.slice (some ⟨pb,0,none⟩) 384 cap':=hnew.elim (fun h=> .inl (Nat.le_trans H9.out.o.size h)) (fun ⟨cap',h⟩=> .inr ⟨cap',by rw [ZN _ _ (by decide)] at h;exact h⟩);have hc2:∀ j,j<482→upd (upd X 0 (.int .i64 (y 0))) 482 (.slice (some ⟨pb,0,none⟩) 384 cap) j=.int .i64 (y j):=fun j hj=>by
     rw [ZN _ _ (by omega)]
     by_cases h0:j=0
     ·subst h0;rw [ZK]
     ·rw [ZN _ _ h0];exact Hg.out.same hj (HQ.out.2.2 j hj h0)
    have Hc2:=zh hc2;have HPF:=zh hpF;have HW6:=zh hw6;have HF30:=zh hF30;have HN2:=zh hnew2;have G3:=zh g3;have HPC:=zh hpcm;have k0:=g3.k0;clear g3 hpcm hpF hw6 hF30 hnew2 ho6 hF3 hnew hc2
    go_wp2_with fail
    refine (zJe (d:=⟨y 0,y 48,fun i=>y (2+i),zA2 t ds f wide n sp y G⟩) G3.out HC.out (Hc2.out 0 (by decide)) (Hc2.out 48 (by decide)) (fun i hi=>Hc2.out _ (by omega)) (fun i hi=>by
     rw [Hc2.out _ (by omega)]
     show _=Value.int .i64 (zA2 t ds f wide n sp y G i)
     unfold zA2;rw [if_neg (by omega),if_neg (by omega)]) Hbd.out.2.2 ⟨by show y 0≠3;omega,by show y 0≠5;omega⟩).mono ?_
    rintro e w8 ⟨rfl,v',g6⟩;have hne:=HPC.out.ne G3.out;have hpcm8:PcmIs w8 pb ps:=HPC.out.only g6.o (by
     simp only [List.mem_cons,List.mem_append,Option.mem_toList,not_or];exact ⟨hne.2.1,hne.2.2.1,HPF.out,hne.2.2.2⟩)
    have g7:=g6.back (H:=pb::(S 23).ownBlock.toList) HW6.out HF30.out (fun g hg=> .inl (List.mem_cons_of_mem _ hg));rw [zEU _ _ _ _ (by decide)] at g7;have G7:=zh g7;have HP8:=zh hpcm8;clear g6 g7 hpcm8 hne G3 HPC;go_wp2
    (try simp only [Exit.inBlock,Exit.then]);refine bodyPost_ret (results_none rfl _ _ _) rfl ?_
    refine ⟨rfl,v',z,F3,upd (upd X 0 (.int .i64 (y 0))) 482 (.slice (some ⟨pb,0,none⟩) 384 cap),pb::(S 23).ownBlock.toList,?_,fun j hj=>?_,fun h=>absurd e2 h,fun _=>⟨pb,cap,ZK _ _ _,HP8.out,HPF.out,HN2.out,rfl⟩⟩
    ·rw [zB6,if_neg (fun h=>h.1 e2)];exact G7.out
    ·rw [Hc2.out j hj]
     split
     ·unfold zA2;rw [if_neg (by omega),if_neg (by omega),show 20+(j-20)=j by omega]
     ·rfl
   ·have e4:=Hkd.out.symm;have hmo:=Hm.out e4;have h9:=HG2.out;rw [Hkr.out,if_neg (by omega),if_neg (by omega),if_neg (by omega),if_pos e4] at h9;have H9:=zh h9;have HMO:=zh hmo;clear h9 hmo
    go_wp2_with fail
    refine (zJd (x:=fun i=>x (20+i)) (x1:=x 1) HC.out H9.out.here H0.out H21.out Hbd.out.1 Hbd.out.2.1 Hbd.out.2.2 Hds.out H2.out HMO.out.ty H6.out H7.out H8.out Ba.out HMO.out.shape (by rw [ZN _ _ (by decide),Hg.out.cell 1 (by decide)]) (fun hw=>Hg.out.told hw 1 (by decide)) (fun i hi=>by rw [ZN _ _ (by omega),Hg.out.cell _ (by omega)]) (fun hw i hi=>Hg.out.told hw _ (by omega)) (fun hw i hi=>Hg.out.none hw _ (by omega)) HMO.out.d0 HMO.out.g HMO.out.one HMO.out.parts HMO.out.small HMO.out.b0 HMO.out.b1 HMO.out.r0 HMO.out.r1).mono ?_;rintro e w6 ⟨rfl,F3,z3,hs3⟩;have HE:=zh (H9.out.trans hs3);clear hs3
    go_wp2_with fail
    go_meet;refine ⟨F3,z3,_,zh ⟨HE.out,fun j hj h19=>?_,?_,fun j hj=>?_,by omega⟩⟩
    ·by_cases h20:20≤j
     ·rw [if_pos ⟨h20,e4⟩];have h8:=zE5 G (upd (upd X 0 (.int .i64 (y 0))) 1 (.int .i64 (y 1))) (j-20) (by omega)
      rwa [show 20+(j-20)=j by omega] at h8
     ·rw [if_neg (fun h=>h20 h.1),zBg _ _ _ (by omega)]
      by_cases h1:j=1
      ·subst h1;rw [ZK]
      ·rw [ZN _ _ h1]
       by_cases h0:j=0
       ·subst h0;rw [ZK]
       ·rw [ZN _ _ h0];exact Hg.out.same (by omega) (Hz.out j hj h0 h19 (by omega))
    ·rw [zBg _ _ _ (by decide),ZN _ _ (by decide),ZN _ _ (by decide)]
    ·rw [zBg _ _ _ (by omega),ZN _ _ (by omega),ZN _ _ (by omega)]
   ·go_wp2_with fail
    go_meet;have e5:=Hkd.out.symm;have h9:=HG2.out;rw [Hkr.out,if_neg (by omega),if_neg (by omega),if_neg (by omega),if_neg (by omega),List.nil_append] at h9;exact ⟨F2,z,_,zh ⟨h9,HSelf.out 5 e5 (by decide) (by decide) (by decide) (by decide),ZN _ _ (by decide),fun j hj=>ZN _ _ (by omega),by omega⟩⟩
  case rest=>
   obtain ⟨F3,z3,X3,hcc⟩:=hcut;have hs:=hcc.out.1;have Hne:Hid (y 0≠2):=zh hcc.out.2.2.2.2;clear k0 k2 m0 HG2;have k0:=hs.k0;have k2:=hs.k2;have m0:wc.cell? ⟨mb,0,none⟩=some (.int .i64 (y 0)):=by rw [hs.m.cell 0 (by decide),hcc.out.2.1 0 (by decide) (by decide),if_neg (fun h=>by omega)]
   clear hs
   go_wp2_with fail
   refine (zDD (y 0) _).mono ?_;rintro e w6 ⟨rfl,rfl⟩;obtain ⟨wb0,hwb⟩:∃ b,b=za (y 0):=⟨_,rfl⟩;rw [←hwb];have Hwb:=zh hwb;clear hwb
   go_upto_if 119 with fail
   go_cut [] (fun wx=>∃ (F4:List Nat) (X4:Nat→Value),Hid (Scene c F w wx kb sb mb (zV S z3) X4 n (zG ds) F4 (zAB (y 0) L H d inc y++r)∧(∀ j,j<48→X4 j=.int .i64 (if 20≤j∧y 0=4 then G (j-20) else y j))∧∀ j,48≤j→X4 j=X j))
   case first=>
    cases wb0 with
    |false=>
     go_wp2_with fail
     go_meet;have h9:=hcc.out.1;rw [if_neg (by rw [←Hwb.out];decide),List.nil_append] at h9;refine ⟨F3,X3,zh ⟨h9,fun j hj=>?_,hcc.out.2.2.2.1⟩⟩
     by_cases h:j=19
     ·subst h;rw [hcc.out.2.2.1,if_neg (fun h=>by omega)];exact Hg.out.same (by decide) (H19.out Hwb.out.symm)
     ·exact hcc.out.2.1 j hj h
    |true=>
     have h9:=hcc.out.1;rw [if_pos Hwb.out.symm] at h9;have H9:Hid (Scene c F w wc kb sb mb (zV S z3) X3 n (zG ds) F3 (.elem 5 0 (y 19) 3::(zAB (y 0) L H d inc y++r))):=zh h9;have hS20:(fun w':World=>w'.cell? ⟨kb,1,none⟩=some (.iface c.T c.pv)∧w'.cell? ⟨mb,19,none⟩=some (.int .i64 (x 19))) wc.drew:=⟨h9.k1,by
      show wc.cell? ⟨mb,19,none⟩=_
      rw [h9.m.cell 19 (by decide),hcc.out.2.2.1,Hg.out.cell 19 (by decide)]⟩
     clear h9
     go_upto_region 20 with fail
     refine zH (by kernel_rfl) (fun w':World=>w'.cell? ⟨kb,1,none⟩=some (.iface c.T c.pv)∧w'.cell? ⟨mb,19,none⟩=some (.int .i64 (x 19))) 14 ?_;have hS0:=hS20;refine AnyL.tk 0 (h:=?_);refine AnyL.tk 1 (h:=?_);refine AnyL.tk 2 (h:=?_);refine AnyL.tk 3 (h:=?_);refine AnyL.tk 4 (h:=?_);refine AnyL.tk 5 (h:=?_);refine AnyL.tk 6 (h:=?_);refine AnyL.tk 7 (h:=?_);refine AnyL.tk 8 (h:=?_);refine AnyL.tk 9 (h:=?_);refine AnyL.tk 10 (h:=?_);refine AnyL.on 11 (h:=fun K hK=>?_);go_simp;refine ((H9.out.drew HC.out).elem HC.out (x 19) (fun hwr=>Hg.out.told hwr 19 (by decide))).mono ?_;rintro e w6 ⟨rfl,F4,g1⟩;have hSb:(fun w':World=>w'.cell? ⟨kb,1,none⟩=some (.iface c.T c.pv)∧w'.cell? ⟨mb,19,none⟩=some (.int .i64 (x 19))) w6:=⟨g1.k1,by rw [g1.m.cell 19 (by decide),hcc.out.2.2.1,Hg.out.cell 19 (by decide)]⟩;have z0:=g1.m.free 19;have G3:=zh g1;clear g1
     refine hK _ _ (fun _=>hSb) (fun hKq=>?_);clear hK K hKq
     try simp only [zpt]
     refine AnyL.tk 12 (h:=?_);refine AnyL.tk 13 (h:=?_);refine AnyL.on 14 (h:=fun K hK=>?_);go_simp;refine hK _ _ (fun h=>absurd rfl h) (fun hKq=>?_);clear hK K hKq
     try simp only [zpt]
     refine AnyL.dn (h:=?_);have hg3:=G3.out.setM HC.out 19 (.int .i64 (y 19));have HE:=zh hg3;clear hS0 hS20 hSb z0 hg3;generalize w6.setCell ⟨mb,19,none⟩ (.int .i64 (y 19))=w7 at*
     go_wp2_with fail
     go_meet;refine ⟨F4,_,zh ⟨HE.out,fun j hj=>?_,fun j hj=>?_⟩⟩
     ·by_cases h:j=19
      ·subst h;rw [ZK,if_neg (fun h=>by omega)]
      ·rw [ZN _ _ h];exact hcc.out.2.1 j hj h
     ·rw [ZN _ _ (by omega)];exact hcc.out.2.2.2.1 j hj
   case rest=>
    obtain ⟨F4,X4,hce⟩:=hcut;have hne:y 0≠2:=Hne.out;have hR:=Hr.out hne;have HR:=zh hR;have hs4:=hce.out.1;clear k0 k2 m0;have k0:=hs4.k0;have hx4:∀ j,48≤j→j<482→X4 j=.int .i64 (x j):=fun j h1 h2=>by rw [hce.out.2.2 j h1,Hg.out.cell j h2]
    have Hx4:=zh hx4;clear hR hs4 hx4
    go_wp2_with fail
    refine (zKu (p:=p) (cb:=x 48) (v:=x 49) HC.out hce.out.1 (by rw [zI _ _ (by decide)];exact H0.out) (by rw [zI _ _ (by decide)];exact H21.out) Hbd.out.1 Hbd.out.2.1 Hbd.out.2.2 (by rw [zI _ _ (by decide)];exact H22.out) (by rw [hce.out.2.1 0 (by decide),if_neg (fun h=>by omega)]) (Hx4.out 48 (by decide) (by decide)) (Hx4.out 49 (by decide) (by decide)) (fun j h1 h2=>⟨_,Hx4.out j h1 h2⟩)
     (Hg.out.range (by decide) (by rw [HR.out.hcbp];have:=HR.out.hl;have:=HR.out.hh;omega) (by decide)) (fun hw j h1 h2=>by rw [Hx4.out j h1 h2,Hg.out.told hw j h2]) HR.out.hl HR.out.hl1 HR.out.hh HR.out.hcbp HR.out.hinc ⟨Hds.out,HR.out.hds⟩ HR.out.hp HR.out.hd HR.out.hq (Hg.out.range (by decide) HR.out.hyq (by decide))).mono ?_
    rintro e w8 ⟨rfl,F5,h5⟩;obtain ⟨SF,hSF⟩:∃ q,q=(if y 0≠2∧zAg (y 0) (y 48)=true then upd S 22 (.int .i64 (y 49)) else S):=⟨_,rfl⟩;have e7:(if zAg (y 0) ((L:Int)+16*(H:Int))=true then upd (zV S z3) 22 (.int .i64 (y 49)) else zV S z3)=zV SF z3:=by
     rw [hSF,←HR.out.hcbp]
     by_cases ht:zAg (y 0) (y 48)=true
     ·rw [if_pos ht,if_pos ⟨hne,ht⟩,zEU _ _ _ _ (by decide)]
     ·rw [if_neg ht,if_neg (fun h=>ht h.2)]
    rw [e7] at h5;have hSi:∀ i,i≠22→SF i=S i:=fun i hi=>by
     rw [hSF]
     split
     ·exact ZN _ _ hi
     ·rfl
    have hlo:∀ j,j<48→zAt (zAa (y 0) L H) X4 y j=.int .i64 (if 20≤j∧y 0=4 then G (j-20) else y j):=fun j hj=>by
     rw [zb (fun h=>by unfold zAa at h;omega)];exact hce.out.2.1 j hj
    have hhi:∀ j,48≤j→j<482→zAt (zAa (y 0) L H) X4 y j=.int .i64 (y j):=fun j h1 h2=>by
     by_cases hT:zAa (y 0) L H j
     ·rw [zA0 hT]
     ·rw [zb hT,Hx4.out j h1 h2];have h9:=Hg.out.same h2 (HR.out.hz j h1 h2 hT)
      rwa [Hg.out.cell j h2] at h9
    have h482:zAt (zAa (y 0) L H) X4 y 482=X 482:=by
     rw [zb (fun h=>by have:=zK9 h;omega),hce.out.2.2 482 (by decide)]
    obtain ⟨X5,hX5⟩:∃ q,q=zAt (zAa (y 0) L H) X4 y:=⟨_,rfl⟩;rw [←hX5] at h5 hlo hhi h482;have Hlo:=zh hlo;have Hhi:=zh hhi;have H482:=zh h482;have HSi:=zh hSi;have HSF:=zh hSF;have H5:=zh h5;clear k0 e7 hSi hlo hhi h482 hX5 hSF h5
    go_wp2_with fail
    by_cases h5k:y 0=5
    ·refine (zIF (kind:=5) (t:=t) (d:=⟨y 0,y 48,fun i=>y (2+i),zA2 t ds f wide n sp y G⟩) H5.out HC.out (by rw [HSi.out 0 (by decide)];exact H0.out) (by rw [HSi.out 21 (by decide)];exact H21.out) Hbd.out.1 Hbd.out.2.1 Hbd.out.2.2 Hds.out (by rw [HSi.out 2 (by decide)];exact H2.out) (by rw [HSi.out 6 (by decide)];exact H6.out) (.inr ⟨rfl,Ht5.out h5k⟩) (by rw [Hlo.out 0 (by decide),if_neg (fun h=>by omega),h5k]) (Hhi.out 48 (by decide) (by decide)) (fun i hi=>by rw [Hlo.out _ (by omega),if_neg (fun h=>by omega)]) h5k (fun i _=>by show zA2 _ _ _ _ _ _ _ _ i=_;unfold zA2;rw [if_neg (by omega),if_pos h5k])).mono ?_;rintro e w9 ⟨rfl,v',z',h9⟩;have H9:=zh h9;clear h9;go_wp2
     (try simp only [Exit.inBlock,Exit.then]);refine bodyPost_ret (results_none rfl _ _ _) rfl ?_
     refine ⟨rfl,v',z',F5,zAz 20 28 (fun i=> .int .i64 (zAv t ds f wide n sp (i%7))) X5,(SF 23).ownBlock.toList,?_,fun j hj=>?_,fun _=>⟨?_,by rw [HSi.out 23 (by decide)]⟩,fun h=>absurd h hne⟩
     ·rw [zB6,←HSF.out];exact H9.out
     ·by_cases hj2:20≤j∧j<48
      ·rw [if_pos hj2];have h8:=zE5 (fun i=>zAv t ds f wide n sp (i%7)) X5 (j-20) (by omega);rw [show 20+(j-20)=j by omega] at h8;rw [h8];unfold zA2;rw [if_neg (by omega),if_pos h5k]
      ·rw [if_neg hj2,zBg (fun i=>zAv t ds f wide n sp (i%7)) _ _ (by omega)]
       by_cases h48:48≤j
       ·exact Hhi.out j h48 hj
       ·rw [Hlo.out j (by omega),if_neg (fun h=>by omega)]
     ·rw [zBg (fun i=>zAv t ds f wide n sp (i%7)) _ _ (by decide)];exact H482.out
    ·refine (zJe (d:=⟨y 0,y 48,fun i=>y (2+i),zA2 t ds f wide n sp y G⟩) H5.out HC.out (by rw [Hlo.out 0 (by decide),if_neg (fun h=>by omega)]) (Hhi.out 48 (by decide) (by decide)) (fun i hi=>by rw [Hlo.out _ (by omega),if_neg (fun h=>by omega)]) (fun i hi=>by
      rw [Hlo.out _ (by omega)]
      show _=Value.int .i64 (zA2 t ds f wide n sp y G i)
      unfold zA2
      by_cases h4:y 0=4
      ·rw [if_pos ⟨by omega,h4⟩,if_pos h4,show 20+i-20=i by omega]
      ·rw [if_neg (fun h=>h4 h.2),if_neg h4,if_neg h5k]) Hbd.out.2.2 ⟨Hk3.out,h5k⟩).mono ?_
     rintro e w9 ⟨rfl,v',h9⟩;rw [zEU _ _ _ _ (by decide),zI _ _ (by decide)] at h9;have H9:=zh h9;clear h9;go_wp2
     (try simp only [Exit.inBlock,Exit.then]);refine bodyPost_ret (results_none rfl _ _ _) rfl ?_
     refine ⟨rfl,v',z3,F5,X5,(SF 23).ownBlock.toList,?_,fun j hj=>?_,fun _=>⟨H482.out,by rw [HSi.out 23 (by decide)]⟩,fun h=>absurd h hne⟩
     ·rw [zB6,←HSF.out];exact H9.out
     ·by_cases h48:48≤j
      ·rw [if_neg (fun h=>by omega)];exact Hhi.out j h48 hj
      ·rw [Hlo.out j (by omega)];unfold zA2
       by_cases h20:20≤j
       ·by_cases h4:y 0=4
        ·rw [if_pos ⟨h20,h4⟩,if_pos ⟨h20,by omega⟩,if_pos h4]
        ·rw [if_neg (fun h=>h4 h.2),if_pos ⟨h20,by omega⟩,if_neg h4,if_neg h5k,show 20+(j-20)=j by omega]
       ·rw [if_neg (fun h=>h20 h.1),if_neg (fun h=>h20 h.1)]
end Go.Proofs.YtcppbdlmcbjmeaaGreatDoor
