/- Lemmas that the law needs, part 42. -/
import Derived.Test.YtcppbdlmcbjmeaaGreatDoorK39
import Derived.Test.YtcppbdlmcbjmeaaGreatDoorK41
set_option maxHeartbeats 6400000
set_option maxRecDepth 100000
namespace Go.Proofs.YtcppbdlmcbjmeaaGreatDoor
open Go.RowKit
theorem zGO {hd:Nat→Value} {f cnt t a0 a1 qp wide:Int} {bb:Nat} {Pc:Array Value} {w:World} (hp:Pc[0]? =some (.bool false)) (hh:zCb hd f cnt t a0 a1 qp) (hw:1≤wide∧wide≤8) (hf:0≤f) (hc:1≤cnt) (ht:0≤t∧t≤2) (hq:0≤qp∧qp≤51) (ha0:0≤a0∧a0≤8) (ha1:0≤a1∧a1≤8):
 Calls Tryz.prog 12 #[.pointer (some ⟨bb,0,none⟩),.agg (hdL hd).toArray,.agg Pc,.int .i64 wide] w fun e w'=>∃ sb wb,e=.returned (.tuple #[.pointer (some ⟨wb,0,none⟩),.int .i64 0])∧BlkIn w' sb 75 106 (stS hd wide qp)∧WcIs w' wb sb bb (.pointer none) false∧w.heap.size≤sb∧w.heap.size≤wb∧Only [] w w':=by
 have hbg:=fun (wx:World)=>zEW (w:=wx) hh hw hf hc ht hq ha0 ha1
 obtain ⟨HL,hHL⟩:∃ HL,HL=hdL hd:=⟨_,rfl⟩;have O1:Hid (Only [] w ((w.alloc (.cells HL.toArray 26)).alloc (.cells Pc 28))):=zh (((Only.refl [] w).alloc _).alloc _);have hr:((w.alloc (.cells HL.toArray 26)).alloc (.cells Pc 28)).rangeAt w.heap.size 0 HL:=fun j v hj=>by
  rw [Nat.zero_add,zA (ZE _ (ZA w _))]
  simpa using hj
 have cp:((w.alloc (.cells HL.toArray 26)).alloc (.cells Pc 28)).cell? ⟨w.heap.size+1,0,none⟩=some (.bool false):=by
  have h:=ZA (w.alloc (.cells HL.toArray 26)) (.cells Pc 28);rw [show (w.alloc (.cells HL.toArray 26)).heap.size=w.heap.size+1 by simp] at h;rw [zA h,hp]
 have hlen:(Tryz.prog.info? 26).map (·.size)=some HL.length:=by rw [hHL];show _=some 21;kernel_rfl
 rw [←hHL] at hbg ⊢;have HBG:=zh hbg;have HR:=zh hr;have HLen:=zh hlen;clear hbg hr hlen hHL hh hp
 go_enter Tryz.func12,Tryz.ntmps12
 go_wp2_with (with_reducible refine wpList_load_mid rfl 26 _ rfl w.heap.size 0 rfl HL _ HR.out Tryz.underlying26 rfl HLen.out ?_)
 refine (HBG.out _).mono ?_;rintro e w1 ⟨sb,rfl,h1,h2,h3⟩;have hsz:w.heap.size+1<((w.alloc (.cells HL.toArray 26)).alloc (.cells Pc 28)).heap.size:=by simp
 have cp1:=h3.cell cp (by simp);have O2:=zh (O1.out.trans h3);have H1:=zh h1;have hsb:w.heap.size≤sb:=by omega
 have hs1:=h3.size;clear h1 h2 h3 cp HR;generalize (w.alloc (.cells HL.toArray 26)).alloc (.cells Pc 28)=wa at*;have cp2:=((Only.refl [] w1).alloc (.cells #[.pointer (some ⟨sb,0,none⟩),.pointer (some ⟨bb,0,none⟩),.pointer none,.bool false] 89)).cell cp1 (by simp);go_wp2;go_ret2;exact ⟨sb,w1.heap.size,rfl,H1.out.only ((Only.refl [] w1).alloc _) (by simp),ZA w1 _,hsb,by omega,O2.out.alloc _⟩
theorem Zq (n:Nat) (X:Nat→Value):(fnA n X).toList.toArray=fnA n X:=by simp
theorem zM (n:Nat) (X:Nat→Value):(fnA n X).toList.length=n:=by simp [fnA]
theorem BlkIn.range {w:World} {b n:Nat} {t:TypeId} {X:Nat→Value} (h:BlkIn w b n t X):w.rangeAt b 0 (fnA n X).toList:=fun j v hj=>by
 rw [Nat.zero_add,zA h]
 simpa using hj
structure Sta (c:Cod) (w:World) (sb:Nat) (S:Nat→Value) (z:Nat→Int) (n:Nat) (D:List Value) (F:List Nat) (r:List Ask):Prop where
 s:BlkIn w sb 75 106 (zV S z)
 a:w.ownsRow 0 103 46 (S 23) n D
 c:c.C F r w
 ns:sb∉F
 na:∀ g,(S 23).ownBlock=some g→g∉F
theorem Sta.only {c:Cod} {w w':World} {sb n:Nat} {S:Nat→Value} {z:Nat→Int} {D:List Value} {F Y:List Nat} {r:List Ask} (h:Sta c w sb S z n D F r) (hc:c.Ok) (ho:Only Y w w') (h1:sb∉Y) (h2:∀ g,(S 23).ownBlock=some g→g∉Y) (h3:∀ i∈F,i∉Y):Sta c w' sb S z n D F r:=
 ⟨h.s.only ho h1,zF h.a fun g hg=>by obtain ⟨cur,hc⟩:=zD h.a hg;exact ho.block g (lt_of_block hc) (h2 g hg),hc.keep F r w w' Y h.c ho h3,h.ns,h.na⟩
theorem Sta.cell {c:Cod} {w:World} {sb n:Nat} {S:Nat→Value} {z:Nat→Int} {D:List Value} {F:List Nat} {r:List Ask} (h:Sta c w sb S z n D F r) (i:Nat) (hi:i<24):w.cell? ⟨sb,i,none⟩=some (S i):=by rw [h.s.cell i (by omega),zI _ _ hi]
theorem Ran.sta {c:Cod} {F0 F:List Nat} {w0 w:World} {sb mb n:Nat} {S X:Nat→Value} {z:Nat→Int} {D:List Value} {r:List Ask} {G:List Nat} (h:Ran c F0 w0 w sb mb (zV S z) X n D F r G):Sta c w sb S z n D F r:=
 ⟨h.s,by have h2:=h.a;rwa [zI _ _ (by decide)] at h2,h.c,h.ns,fun g hg=>h.na g (by rw [zI _ _ (by decide)];exact hg)⟩
theorem Sta.scene {c:Cod} {w:World} {kb sb mb n:Nat} {S X:Nat→Value} {z:Nat→Int} {D:List Value} {F:List Nat} {r:List Ask} (h:Sta c w sb S z n D F r) (hk:WkIn w kb sb mb (.iface c.T c.pv)) (hm:BlkIn w mb 483 51 X) (nk:kb∉F) (nm:mb∉F):Scene c F w w kb sb mb (zV S z) X n D F r:=
 { k:=hk,s:=h.s,m:=hm,a:=by rw [zI _ _ (by decide)];exact h.a,c:=h.c,nk:=nk,ns:=h.ns,nm:=nm,na:=by rw [zI _ _ (by decide)];exact h.na,o:=Only.refl _ _,n:=fun _ hi=> .inl hi,l:=⟨lt_of_block hk,h.s.lt,hm.lt⟩ }
theorem Sta.slice {c:Cod} {w:World} {sb n:Nat} {S:Nat→Value} {z:Nat→Int} {D:List Value} {F:List Nat} {r:List Ask} (h:Sta c w sb S z n D F r):∃ ad capd,S 23=.slice ad n capd:=by
 rcases h.a.2 with ⟨h1,h2⟩|⟨g,cap,cur,h1,_⟩
 ·exact ⟨none,0,by rw [h1,h2]⟩
 ·exact ⟨_,cap,h1⟩
structure Left (c:Cod) (w w':World) (sb:Nat) (S:Nat→Value) (s:Sl) (n:Nat) (ds:List DoneP) (F:List Nat) (r:List Ask) (p:Int) (y:Nat→Int) (v':Value) (z':Nat→Int) (F':List Nat):Prop where
 sta:Sta c w' sb (upd (upd S 22 (.int .i64 (zDn p y))) 23 v') z' (n+1) (zG (ds++[s.d ds y])) F' r
 o:Only (sb::(F++(S 23).ownBlock.toList)) w w'
 n:∀ i∈F',i∈F∨w.heap.size≤i
 ga:∀ g,v'.ownBlock=some g→(S 23).ownBlock=some g∨w.heap.size≤g
def zOF (c:Cod) (w:World) (sb:Nat) (S:Nat→Value) (s:Sl) (n:Nat) (ds:List DoneP) (F:List Nat) (r:List Ask) (p:Int) (y:Nat→Int) (q:Value) (e:Ending) (w':World):Prop:=e=.returned q∧∃ (v':Value) (z':Nat→Int) (F':List Nat),Left c w w' sb S s n ds F r p y v' z' F'
theorem zNu {c:Cod} {w:World} {wb sb n len cap:Nat} {S X:Nat→Value} {hd:Nat→Value} {z:Nat→Int} {ds:List DoneP} {F:List Nat} {r:List Ask} {y ps:Nat→Int} {p cnt:Int} {s:Sl} {ao:Option Addr} (hc:c.Ok) (hT:c.T=31) (hpv:c.pv=.pointer (some ⟨wb,0,none⟩)) (hwr:c.wr=true)
 (hcell:∀ F r w,c.C F r w→w.cell? ⟨wb,0,none⟩=some (.pointer (some ⟨sb,0,none⟩))∧wb∈F) (h:Sta c w sb S z n (zG ds) F (zCq s ds p y ps++r))
 (hs:zNE s S) (hS:∀ j,j<21→S j=hd j) (h1:hd 1=.int .i64 cnt) (h22:S 22=.int .i64 p) (bn:n≤1000000) (hds:ds.length=n) (hnc:(n:Int)<cnt)
 (hb:Behind ds p) (hy:MbOk s y ps) (hX:∀ j,j<482→X j=.int .i64 (y j)) (h482:X 482=.slice ao len cap) (hlen:len=if y 0=2 then 384 else 0)
 (hpcm:y 0=2→∃ g off,ao=some ⟨g,off,none⟩∧∀ i,i<384→w.cell? ⟨g,off+i,none⟩=some (.int .u8 (ps i))):
 Calls Tryz.prog 15 #[.pointer (some ⟨wb,0,none⟩),.agg (fnA 483 X)] w (zOF c w sb S s n ds F r p y (.int .i64 0)):=by
 have hat:=fun (i:Nat) (hi:i<21)=>(show (hdL hd).toArray[i]? =some (S i) by rw [hS i hi];simpa using zF7 hd i hi)
 have hmay:=fun wx=>zL0 (len:=len) (cap:=cap) (ao:=ao) (y:=y) (X:=X) (Hc:=(hdL hd).toArray) (w:=wx) hy.ty (by rw [hat 2 (by decide),hs.h2]) (by rw [hat 7 (by decide),hs.h7]) (by rw [hat 8 (by decide),hs.h8]) hs.ba hX h482
 have hok:zDp y len s.t s.a0 s.a1:=⟨by rw [hlen];exact hy.body,hy.parts,hy.inter⟩;obtain ⟨XL,hXL⟩:∃ XL,XL=(fnA 483 X).toList:=⟨_,rfl⟩;obtain ⟨HL,hHL⟩:∃ HL,HL=hdL hd:=⟨_,rfl⟩;have eX:fnA 483 X=XL.toArray:=by rw [hXL,Zq]
 have hsl:=h.s.lt;have hB:BlkIn (w.alloc (.cells XL.toArray 51)) w.heap.size 483 51 X:=by
  unfold BlkIn;rw [ZA,eX]
 have hO:Only [] w (w.alloc (.cells XL.toArray 51)):=(Only.refl [] w).alloc _;have hrX:=hB.range;rw [←hXL] at hrX;have hSt:=h.only hc hO (by simp) (by simp) (by simp);have hrH:(w.alloc (.cells XL.toArray 51)).rangeAt sb 0 HL:=fun j v hj=>by
  have hjl:j<21:=by
   apply Classical.byContradiction
   intro e;rw [hHL,List.getElem?_eq_none (by show 21≤j;omega)] at hj
   cases hj
  rw [Nat.zero_add,hSt.cell j (by omega),hS j hjl];rw [hHL,zF7 hd j hjl] at hj;exact hj
 have hXi:(Tryz.prog.info? 51).map (·.size)=some XL.length:=by rw [hXL,zM];kernel_rfl
 have hHi:(Tryz.prog.info? 26).map (·.size)=some HL.length:=by rw [hHL];show _=some 21;kernel_rfl
 have cw1:=(hcell F _ _ hSt.c).1;have cs1:(w.alloc (.cells XL.toArray 51)).cell? ⟨sb,1,none⟩=some (.int .i64 cnt):=by rw [hSt.cell 1 (by decide),hS 1 (by decide),h1]
 have cs23:(w.alloc (.cells XL.toArray 51)).cell? ⟨sb,23,none⟩=some (S 23):=hSt.cell 23 (by decide);obtain ⟨ad,capd,hv23⟩:=h.slice;rw [hv23] at cs23;rw [eX,←hHL] at hmay;rw [eX];have HM:=zh hmay;have Hok:=zh hok;have HrX:=zh hrX;have HrH:=zh hrH;have HXi:=zh hXi;have HHi:=zh hHi;have HSt:=zh hSt;have HB:=zh hB;have HO:=zh hO;have HS:=zh hS;have Hv23:=zh hv23;clear hmay hok hrX hrH hXi hHi hSt hB hO hXL hHL eX hS hv23 hat
 go_enter Tryz.func15,Tryz.ntmps15
 go_wp2_with fail
 generalize w.alloc (.cells XL.toArray 51)=w1 at*
 go_region
 rw [show decide (cnt≤(n:Int))=false from decide_eq_false (by omega)];have od:Only [] w1 w1.drew:=(Only.refl [] w1).drew;replace HSt:=zh (HSt.out.only hc od (by simp) (by simp) (by simp));replace HB:=zh (HB.out.only od (by simp));replace HO:=zh (HO.out.trans od);replace HrX:Hid (w1.drew.rangeAt w.heap.size 0 XL):=zh HrX.out;replace HrH:Hid (w1.drew.rangeAt sb 0 HL):=zh HrH.out;replace cw1:w1.drew.cell? ⟨wb,0,none⟩=some (.pointer (some ⟨sb,0,none⟩)):=cw1;replace cs1:w1.drew.cell? ⟨sb,1,none⟩=some (.int .i64 cnt):=cs1;clear od cs23;generalize w1.drew=w1 at*
 go_wp2_with fail
 refine zH (by kernel_rfl) (fun w'=>w'.cell? ⟨wb,0,none⟩=some (.pointer (some ⟨sb,0,none⟩))∧w'.rangeAt w.heap.size 0 XL∧w'.rangeAt sb 0 HL) 10 ?_;have hS0:(fun w'=>w'.cell? ⟨wb,0,none⟩=some (.pointer (some ⟨sb,0,none⟩))∧w'.rangeAt w.heap.size 0 XL∧w'.rangeAt sb 0 HL) w1.drew:=⟨cw1,HrX.out,HrH.out⟩;refine AnyL.tl 0 rfl (yieldsIf_load_mid (by rfl) _ _ rfl w.heap.size 0 rfl XL _ (fun w' h=>h.2.1) Tryz.underlying51 rfl HXi.out) ?_;refine AnyL.tk 1 (h:=?_);refine AnyL.tk 2 (h:=?_);refine AnyL.tk 3 (h:=?_);refine AnyL.tk 4 (h:=?_);refine AnyL.tk 5 (h:=?_);refine AnyL.tk 6 (h:=?_);refine AnyL.tl 7 rfl (yieldsIf_load_mid (by rfl) _ _ rfl sb 0 rfl HL _ (fun w' h=>h.2.2) Tryz.underlying26 rfl HHi.out) ?_;refine AnyL.on 8 (h:=fun K hK=>?_);rw [if_pos (by rfl)];go_simp;refine (HM.out w1.drew).mono ?_;rintro e w2 ⟨b2,rfl,hb2,ho2⟩;obtain rfl:b2=true:=hb2.2 Hok.out
 have hS1:(fun w'=>w'.cell? ⟨wb,0,none⟩=some (.pointer (some ⟨sb,0,none⟩))∧w'.rangeAt w.heap.size 0 XL∧w'.rangeAt sb 0 HL) w2:=⟨ho2.cell hS0.1 (by simp),fun j v hj=>ho2.cell (hS0.2.1 j v hj) (by simp),fun j v hj=>ho2.cell (hS0.2.2 j v hj) (by simp)⟩;have HO2:=zh ((Only.refl [] w1).drew.trans ho2);clear ho2 hb2;refine hK _ _ (fun _=>hS1) (fun hKq=>?_);clear hK K hKq
 try simp only [zpt]
 refine AnyL.on 9 (h:=fun K hK=>?_);go_simp;refine hK _ _ (fun _=>hS1) (fun hKq=>?_);clear hK K hKq
 try simp only [zpt]
 refine AnyL.on 10 (h:=fun K hK=>?_);go_simp;refine hK _ _ (fun _=>hS1) (fun hKq=>?_);clear hK K hKq
 try simp only [zpt]
 refine AnyL.dn (h:=?_);have HSt2:=zh (HSt.out.only hc HO2.out (by simp) (by simp) (by simp));have HB2:=zh (HB.out.only HO2.out (by simp));have HOw:=zh (HO.out.trans HO2.out);have c482:w2.cell? ⟨w.heap.size,482,none⟩=some (.slice ao len cap):=by rw [HB2.out.cell 482 (by decide),h482]
 have z482:=HB2.out.free 482;have hF:∀ i∈F,i<w.heap.size:=fun i hi=>hc.low F _ _ h.c i hi
 have hg23:∀ g,(S 23).ownBlock=some g→g<w.heap.size:=fun g hg=>by obtain ⟨cur,hcur⟩:=zD h.a hg;exact lt_of_block hcur
 have HF:=zh hF;have Hg23:=zh hg23;have hws:=HOw.out.size;clear HSt HB HO HO2 HrX HrH HXi HHi HM cw1 cs1 hS0 hS1 hF hg23;have hK:Hid (∀ (w3:World) (pv:Value) (X':Nat→Value),Sta c w3 sb S z n (zG ds) F (zCq s ds p y ps++r)→BlkIn w3 w.heap.size 483 51 X'→X'=upd X 482 pv→Only [] w w3→w.heap.size<w3.heap.size→
  (y 0=2→∃ (pb cap:Nat),pv=.slice (some ⟨pb,0,none⟩) 384 cap∧PcmIs w3 pb ps∧w.heap.size≤pb)→
  Calls Tryz.prog 37 #[.pointer (some ⟨w3.heap.size,0,none⟩)] (w3.alloc (.cells #[.pointer (some ⟨sb,0,none⟩),.iface c.T c.pv,.pointer (some ⟨w.heap.size,0,none⟩)] 112)) (zOF c w sb S s n ds F r p y (.tuple #[]))):=zh (by
  intro w3 pv X' hst hm hX' ho hw3 hp;have oK:Only [] w3 (w3.alloc (.cells #[.pointer (some ⟨sb,0,none⟩),.iface c.T c.pv,.pointer (some ⟨w.heap.size,0,none⟩)] 112)):=(Only.refl [] w3).alloc _;have hst4:=hst.only hc oK (by simp) (by simp) (by simp);have sc:=hst4.scene (ZA w3 _) (hm.only oK (by simp)) (fun e=>by have:=HF.out _ e;omega) (fun e=>by have:=HF.out _ e;omega);refine (zFo (x:=y) hc sc hs h22 bn hds hb hy ⟨fun j hj=>by rw [hX',ZN _ _ (by omega),hX j hj],fun _ _ _=>rfl,fun e=>by rw [hwr] at e;cases e⟩ (fun h2=>by
   obtain ⟨pb,capb,e1,e2,e3⟩:=hp h2;refine .inr ⟨pb,capb,ps,by rw [hX',ZK,e1],e2.only oK (by simp),fun hm=>by have:=HF.out _ hm;omega,fun _ _ _=>rfl⟩)).mono ?_
  rintro e w5 ⟨rfl,v',z',F',Xf,G',hr,-,h7,h8⟩;have hG:∀ g∈G',(S 23).ownBlock=some g∨w.heap.size≤g:=by
   intro g hg
   by_cases h2:y 0=2
   ·obtain ⟨pb,capb,q1,q2,q3,q4,q5⟩:=h8 h2;obtain ⟨pb0,cap0,e1,e2,e3⟩:=hp h2;have hpb:w.heap.size≤pb:=by
     rcases q4 with q4|⟨cap',q4⟩
     ·have:=oK.size;omega
     ·rw [hX',ZK,e1] at q4;injection q4 with q4
      injection q4 with q4
      injection q4 with q4
      omega
    rw [q5] at hg
    rcases List.mem_cons.1 hg with rfl|hg
    ·exact .inr hpb
    ·exact .inl (by simpa using hg)
   ·rw [(h7 h2).2] at hg;exact .inl (by simpa using hg)
  have hwk:=(ho.trans oK).size;subst hds;refine ⟨rfl,v',z',F',hr.sta,?_,?_,?_⟩
  ·refine ((ho.trans oK).mono (T:=sb::(F++(S 23).ownBlock.toList)) (by simp)).trans' hr.o (fun i hi=>?_);simp only [List.mem_cons,List.mem_append,Option.mem_toList] at hi ⊢
   rcases hi with h1|h1|h1|h1
   ·exact .inl (.inl h1)
   ·exact .inr (by omega)
   ·exact .inl (.inr (.inl h1))
   ·rcases hG i h1 with h2|h2
    ·exact .inl (.inr (.inr h2))
    ·exact .inr h2
  ·intro i hi
   rcases hr.n i hi with h1|h1
   ·exact .inl h1
   ·exact .inr (by omega)
  ·intro g hg
   rcases hr.ga g (by rw [zI _ _ (by decide),ZK];exact hg) with h1|h1
   ·exact hG g h1
   ·exact .inr (by omega))
 have hmlt:=HB2.out.lt;have hwbl:=HF.out wb (hcell F _ _ HSt2.out.c).2;have hwbn:wb≠w.heap.size:=by omega
 by_cases h2:y 0=2
 ·obtain ⟨g,off,rfl,hg⟩:=hpcm h2;have hl384:len=384:=by rw [hlen,if_pos h2]
  have hnews:∀ (j:Nat) (v:Value),((List.range 384).map fun i=>Value.int .u8 (ps i))[j]? =some v→w2.cell? ((⟨g,off,none⟩:Addr).add j)=some v:=fun j v hj=>by
   have hjl:j<384:=by
    apply Classical.byContradiction
    intro e;rw [List.getElem?_eq_none (by simp;omega)] at hj
    cases hj
   rw [Addr.add_lit,HOw.out.cell (hg j hjl) (by simp)]
   simpa [hjl] using hj
  subst hl384;have Hnews:=zh hnews;have H2:=zh h2;clear hnews hg h2 hpcm hlen
  go_wp2_with (at_builtin;refine zAo rfl _ _ rfl zL8 w2.heap.size _ 0 [] rfl (World.ownsRow_nil _ _ _ _) ⟨g,off,none⟩ 384 cap ((List.range 384).map fun i=>Value.int .u8 (ps i)) rfl (by simp) Hnews.out (by simp [Value.oneCell']) (by omega) (by omega) (by omega) (by omega) ?_)
  intro g2 cap2 w3 hpu;have hpu1:w3.ownsRow w2.heap.size 5 1 (.slice (some ⟨g2,0,none⟩) (0+384) cap2) (0+384) ([]++(List.range 384).map fun i=>Value.int .u8 (ps i)):=hpu.1;have hpu2:w2.grownBy w3 none:=hpu.2.1;have ow3:Only [] w2 w3:=(Only.refl [] w2).grown hpu2 (fun k hk=>by cases hk);obtain ⟨g3,cap3,cur,e1,hb3,hg3,hc3⟩:=zAi hpu1 (by decide);injection e1 with e1 e2 e3
  injection e1 with e1
  injection e1 with e1
  subst e1 e3;clear e2;have hpcm3:PcmIs w3 g2 ps:=⟨cur,hg3,fun i hi=>⟨by
   have:=hc3 i (by omega);rw [zA hg3] at this;rw [this,List.nil_append];simp [hi],hy.pcm i hi⟩⟩
  have hm3:=HB2.out.only ow3 (by simp);have hs3:=HSt2.out.only hc ow3 (by simp) (by simp) (by simp);have oS:Only [w.heap.size] w3 (w3.setCell ⟨w.heap.size,482,none⟩ (.slice (some ⟨g2,0,none⟩) 384 cap2)):=(Only.refl _ w3).setCell (.inl (by simp)) _;have hmS:=hm3.set 482 (.slice (some ⟨g2,0,none⟩) 384 cap2);have hsS:=hs3.only hc oS (by simp;omega) (fun g hg=>by have:=Hg23.out g hg;simp;omega) (fun i hi=>by have:=HF.out i hi;simp;omega);have hpS:=hpcm3.only oS (by simp;omega);have oT:Only [] w (w3.setCell ⟨w.heap.size,482,none⟩ (.slice (some ⟨g2,0,none⟩) 384 cap2)):=(HOw.out.trans ow3).setCell (.inr (Nat.le_refl _)) _;have cwS:=(hcell F _ _ hs3.c).1;have c482':=hm3.cell 482 (by decide);rw [h482] at c482';have z482':=hm3.free 482;have hsz3:=ow3.size
  have hk2:=hK.out (w3.setCell ⟨w.heap.size,482,none⟩ (.slice (some ⟨g2,0,none⟩) 384 cap2)) (.slice (some ⟨g2,0,none⟩) 384 cap2) _ hsS hmS rfl oT (by simp;omega) (fun _=>⟨g2,cap2,rfl,hpS,by omega⟩);rw [hT,hpv,show (w3.setCell ⟨w.heap.size,482,none⟩ (.slice (some ⟨g2,0,none⟩) 384 cap2)).heap.size=w3.heap.size by simp] at hk2;have HK2:=zh hk2;clear hpu hpu1 hpu2 ow3 hb3 hg3 hc3 hpcm3 hm3 hs3 oS hmS hsS hpS oT hk2 c482 z482
  go_wp2_with fail
  refine HK2.out.mono ?_;rintro e w5 ⟨rfl,v',z',F',q1⟩;have Q1:=zh q1;clear q1 HK2;go_wp2;go_ret;exact ⟨rfl,v',z',F',Q1.out⟩
 ·have hl0:len=0:=by rw [hlen,if_neg h2]
  subst hl0;have H2:=zh h2;have oS:Only [w.heap.size] w2 (w2.setCell ⟨w.heap.size,482,none⟩ (.slice none 0 0)):=(Only.refl _ w2).setCell (.inl (by simp)) _;have hmS:=HB2.out.set 482 (.slice none 0 0);have hsS:=HSt2.out.only hc oS (by simp;omega) (fun g hg=>by have:=Hg23.out g hg;simp;omega) (fun i hi=>by have:=HF.out i hi;simp;omega);have oT:Only [] w (w2.setCell ⟨w.heap.size,482,none⟩ (.slice none 0 0)):=HOw.out.setCell (.inr (Nat.le_refl _)) _;have cwS:=(hcell F _ _ HSt2.out.c).1;have hk2:=hK.out (w2.setCell ⟨w.heap.size,482,none⟩ (.slice none 0 0)) (.slice none 0 0) _ hsS hmS rfl oT (by simp;omega) (fun h=>absurd h H2.out);rw [hT,hpv,show (w2.setCell ⟨w.heap.size,482,none⟩ (.slice none 0 0)).heap.size=w2.heap.size by simp] at hk2;have HK2:=zh hk2;clear oS hmS hsS oT hk2 h2 hlen hpcm
  rcases ao with _|ad
  all_goals
   go_wp2_with fail
   refine HK2.out.mono ?_;rintro e w5 ⟨rfl,v',z',F',q1⟩;have Q1:=zh q1;clear q1 HK2;go_wp2;go_ret;exact ⟨rfl,v',z',F',Q1.out⟩
theorem zEY {w:World} {B n s:Nat} {e:TypeId} {v:Value} {xs:List Value} (h:w.ownsRow B e s v n xs):∃ ad cap,v=.slice ad n cap:=by
 rcases h.2 with ⟨h1,h2⟩|⟨g,cap,cur,h1,_⟩
 ·exact ⟨none,0,by rw [h1,h2]⟩
 ·exact ⟨_,cap,h1⟩
theorem zEg {wb sb bb:Nat} {ev:Value} {over:Bool} {w:World} (h:WcIs w wb sb bb ev over):WcIs (w.setCell ⟨wb,3,none⟩ (.bool true)) wb sb bb ev true:=by
 unfold WcIs at h ⊢;rw [zB _ h]
 rfl
theorem zMG {w:World} {wb sb bb n:Nat} {S:Nat→Value} {D:List Value} {ov:Value} {bs:List Int} {cnt:Int} (hW:WcIs w wb sb bb (.pointer none) false) (hs:BlkIn w sb 75 106 S) (ha:w.ownsRow 0 103 46 (S 23) n D) (h1:S 1=.int .i64 cnt) (hn:cnt≤n) (hb:WrIs w bb ov bs) (hl:bs.length<800000000):
 Calls Tryz.prog 16 #[.pointer (some ⟨wb,0,none⟩)] w fun e w'=>e=.returned (.int .i64 0)∧∃ ov',WcIs w' wb sb bb (.pointer none) true∧WrIs w' bb ov' (bs++zBE bs.length)∧Only (wb::bb::ov.ownBlock.toList) w w':=by
 obtain ⟨c0,c1,c2,c3⟩:=hW.cells;obtain ⟨ad,cap,hv⟩:=zEY ha;have s1:w.cell? ⟨sb,1,none⟩=some (.int .i64 cnt):=by rw [hs.cell 1 (by decide),h1]
 have s23:w.cell? ⟨sb,23,none⟩=some (.slice ad n cap):=by rw [hs.cell 23 (by decide),hv]
 have z3:=ZB hW 3;have HW:=zh hW;have HB:=zh hb;clear hW hb hs ha h1 hv
 go_enter Tryz.func16,Tryz.ntmps16
 go_wp2
 go_quiet (fail)
 rename_i nq;have HW1:Hid (WcIs (w.drewN nq) wb sb bb (.pointer none) false):=zh HW.out;have HB1:Hid (WrIs (w.drewN nq) bb ov bs):=zh (HB.out.drewN nq);have O1:Hid (Only [] w (w.drewN nq)):=zh ((Only.refl [] w).drewN nq);replace c1:(w.drewN nq).cell? ⟨wb,1,none⟩=some (.pointer (some ⟨bb,0,none⟩)):=c1;replace c2:(w.drewN nq).cell? ⟨wb,2,none⟩=some (.pointer none):=c2;replace c3:(w.drewN nq).cell? ⟨wb,3,none⟩=some (.bool false):=c3;replace z3:(w.drewN nq).frozen? ⟨wb,3,none⟩=false:=z3;clear HW HB s1 s23 c0;generalize w.drewN nq=w1 at*;have HW2:=zh (zEg HW1.out);have oS:Only [wb] w1 (w1.setCell ⟨wb,3,none⟩ (.bool true)):=(Only.refl _ w1).setCell (.inl (by simp)) _;have hne:=HW1.out.ne HB1.out;have HB2:=zh (HB1.out.only oS (by simp;exact Ne.symm hne.1) (fun g hg=>by simp;exact Ne.symm (hne.2 g hg).1))
 have O2:Hid (Only [wb] w (w1.setCell ⟨wb,3,none⟩ (.bool true))):=zh ((O1.out.mono (T:=[wb]) (by simp)).trans oS);have Hne:=zh hne;clear oS hne
 go_wp2_with fail
 generalize w1.setCell ⟨wb,3,none⟩ (.bool true)=w2 at*;refine (zJO bb ov bs w2 HB2.out (by omega)).mono ?_;rintro e w3 ⟨rfl,ov',q1,q2⟩;have Q1:=zh q1;have Q2:=zh q2;clear q1 q2;go_wp2;go_ret;refine ⟨rfl,ov',HW2.out.only Q2.out.only (by simp only [List.mem_cons,Option.mem_toList,not_or];exact ⟨Hne.out.1,fun h=>(Hne.out.2 wb h).1 rfl⟩),Q1.out,?_⟩;exact (O2.out.mono (T:=wb::bb::ov.ownBlock.toList) (by simp)).trans (Q2.out.only.mono (fun i hi=>List.mem_cons_of_mem _ hi))
theorem zJb {w:World} {wb sb bb:Nat} {ov:Value} {bs:List Int} {over:Bool} (hW:WcIs w wb sb bb (.pointer none) over) (hb:WrIs w bb ov bs):
 Calls Tryz.prog 18 #[.pointer (some ⟨wb,0,none⟩)] w fun e w'=>e=.returned (.string (strOfNums (ZP bs)))∧w=w':=by
 obtain ⟨c0,c1,c2,c3⟩:=hW.cells;have HB:=zh hb;clear hW hb
 go_enter Tryz.func18,Tryz.ntmps18
 go_wp2_with fail
 refine (zGB bb ov bs w HB.out).mono ?_;rintro e w1 ⟨rfl,rfl⟩;go_wp2;go_ret;exact ⟨rfl,rfl⟩
def zAw (n:Nat):Nat:=(8-n%8)%8
def zN6 (hd:Nat→Value) (wide qp:Int) (bb:Nat) (ov:Value) (bs:List Int) (w:World) (e:Ending) (w':World):Prop:=∃ (sb wb eb tb sk:Nat) (ov':Value),e=.returned (.tuple #[.pointer (some ⟨wb,0,none⟩),.int .i64 0])∧BlkIn w' sb 75 106 (stS hd wide qp)∧
 WcIs w' wb sb bb (.pointer (some ⟨eb,0,none⟩)) false∧EncIs w' eb tb sk (.slice none 0 0) (Enc.new (zAm qp))∧WrIs w' bb ov' (bs++List.replicate (zAw bs.length) 1)∧EncTo w w' bb ov ov'∧w.heap.size≤sb∧w.heap.size≤wb∧w.heap.size≤eb∧w.heap.size≤tb∧w.heap.size≤sk
theorem zGN {hd:Nat→Value} {f cnt t a0 a1 qp wide:Int} {bb:Nat} {ov:Value} {bs:List Int} {Pc:Array Value} {w:World} (hA:Asc w) (hA2:∀ g∈bb::ov.ownBlock.toList,0<g) (hb:WrIs w bb ov bs) (hl:bs.length<900000) (hp:Pc[0]? =some (.bool true)) (hh:zCb hd f cnt t a0 a1 qp) (h17:hd 17=.int .i64 qp) (hw:1≤wide∧wide≤8) (hf:0≤f) (hc:1≤cnt) (ht:0≤t∧t≤2) (hq:0≤qp∧qp≤51) (ha0:0≤a0∧a0≤8) (ha1:0≤a1∧a1≤8):
 Calls Tryz.prog 12 #[.pointer (some ⟨bb,0,none⟩),.agg (hdL hd).toArray,.agg Pc,.int .i64 wide] w (zN6 hd wide qp bb ov bs w):=by
 have hbg:=fun (wx:World)=>zEW (w:=wx) hh hw hf hc ht hq ha0 ha1
 have hl17:(hdL hd)[17]? =some (.int .i64 qp):=by rw [←h17];rfl
 obtain ⟨HL,hHL⟩:∃ HL,HL=hdL hd:=⟨_,rfl⟩;have O1:Hid (Only [] w ((w.alloc (.cells HL.toArray 26)).alloc (.cells Pc 28))):=zh (((Only.refl [] w).alloc _).alloc _);have hr:((w.alloc (.cells HL.toArray 26)).alloc (.cells Pc 28)).rangeAt w.heap.size 0 HL:=fun j v hj=>by
  rw [Nat.zero_add,zA (ZE _ (ZA w _))]
  simpa using hj
 have cp:((w.alloc (.cells HL.toArray 26)).alloc (.cells Pc 28)).cell? ⟨w.heap.size+1,0,none⟩=some (.bool true):=by
  have h:=ZA (w.alloc (.cells HL.toArray 26)) (.cells Pc 28);rw [show (w.alloc (.cells HL.toArray 26)).heap.size=w.heap.size+1 by simp] at h;rw [zA h,hp]
 have cq:((w.alloc (.cells HL.toArray 26)).alloc (.cells Pc 28)).cell? ⟨w.heap.size,17,none⟩=some (.int .i64 qp):=by
  have h:=hr 17 _ (hHL▸hl17)
  simpa using h
 have hlen:(Tryz.prog.info? 26).map (·.size)=some HL.length:=by rw [hHL];show _=some 21;kernel_rfl
 rw [←hHL] at hbg ⊢;have hbw:=lt_of_block hb.cells.choose_spec;have hov:∀ q,ov.ownBlock=some q→q<w.heap.size:=fun q hq=>by obtain ⟨c,hc⟩:=zD hb.out hq;exact lt_of_block hc
 have HBG:=zh hbg;have HR:=zh hr;have HLen:=zh hlen;have HBb:=zh hb;have HA:=zh hA;have HA2:=zh hA2;have Hov:=zh hov;have Hl:=zh hl;clear hbg hr hlen hHL hh hp hl17 hb hA hA2 hov h17 hl
 go_enter Tryz.func12,Tryz.ntmps12
 go_wp2_with (with_reducible refine wpList_load_mid rfl 26 _ rfl w.heap.size 0 rfl HL _ HR.out Tryz.underlying26 rfl HLen.out ?_)
 refine (HBG.out _).mono ?_;rintro e w1 ⟨sb,rfl,h1,h2,h3⟩;have hsz:w.heap.size+1<((w.alloc (.cells HL.toArray 26)).alloc (.cells Pc 28)).heap.size:=by simp
 have cp1:=h3.cell cp (by simp);have cq1:=h3.cell cq (by simp);have O2:=zh (O1.out.trans h3);have H1:=zh h1;have hsb:w.heap.size≤sb:=by omega
 have hs1:=h3.size;have hsb1:sb<w1.heap.size:=lt_of_block h1;clear h1 h2 h3 cp cq HR;generalize (w.alloc (.cells HL.toArray 26)).alloc (.cells Pc 28)=wa at*;have ox:=(Only.refl [] w1).alloc (.cells #[.pointer (some ⟨sb,0,none⟩),.pointer (some ⟨bb,0,none⟩),.pointer none,.bool false] 89);have cp2:=ox.cell cp1 (by simp);have cq2:=ox.cell cq1 (by simp);have hW:WcIs (w1.alloc (.cells #[.pointer (some ⟨sb,0,none⟩),.pointer (some ⟨bb,0,none⟩),.pointer none,.bool false] 89)) w1.heap.size sb bb (.pointer none) false:=ZA w1 _;have H2:=zh (H1.out.only ox (by simp));have O3:=zh (O2.out.trans ox);have Hw:=zh hW;have Hb:=zh (HBb.out.only O3.out (by simp) (by simp));have hnb:sb≠bb:=by omega
 have hnw:w1.heap.size≠bb:=by omega
 clear O1 O2 H1 cp1 cq1 ox hW HBb HBG;have hszz:w1.heap.size<(w1.alloc (.cells #[.pointer (some ⟨sb,0,none⟩),.pointer (some ⟨bb,0,none⟩),.pointer none,.bool false] 89)).heap.size:=by simp
 go_wp2_with fail
 generalize w1.heap.size=wb at*;generalize w1.alloc (.cells #[.pointer (some ⟨sb,0,none⟩),.pointer (some ⟨bb,0,none⟩),.pointer none,.bool false] 89)=w2 at*
 go_loopw [] (fun wr=>∃ (j:Nat) (ov2:Value),j≤zAw bs.length∧WrIs wr bb ov2 (bs++List.replicate j 1)∧EncTo w2 wr bb ov ov2) (fun wr=>(8-zB9 wr bb 1%8)%8)
 case atStart=>exact ⟨0,ov,Nat.zero_le _,by simpa using Hb.out,EncTo.refl _ _ _⟩
 case round=>
  obtain ⟨j,ov2,hj,hi,ht⟩:=hrel;have hj8:j≤7:=by unfold zAw at hj;omega
  have hn:(bs++List.replicate j (1:Int)).length=bs.length+j:=by simp
  obtain ⟨G,hG⟩:∃ G:Int,G=((bs++List.replicate j (1:Int)).length:Int):=⟨_,rfl⟩;have hGn:G=(bs.length+j:Nat):=by rw [hG,hn]
  have hlen:=zLp bb ov2 _ wr hi;rw [←hG] at hlen;have hc1:zB9 wr bb 1=bs.length+j:=by
   obtain ⟨c,hc⟩:=hi.cells;rw [zAT (show wr.cell? ⟨bb,1,none⟩=some (.int .i64 ((bs++List.replicate j (1:Int)).length:Int)) by rw [zA hc];rfl),hn];rfl
  have Hi:=zh hi;have Ht:=zh ht;have Hlen:=zh hlen;have HG:=zh hGn;have g0:0≤G∧G≤900100:=by have:=Hl.out;omega
  have Hc1:=zh hc1;clear hi ht hlen hG hn hGn hc1
  by_cases hz:G%8=0
  ·skip
   go_wp2_with fail
   refine Hlen.out.mono ?_;rintro r wx ⟨rfl,rfl⟩;have hjl:j=zAw bs.length:=by have:=HG.out;unfold zAw at hj ⊢;omega
   have hn1:∀ k,w.heap.size≤k→k∉bb::ov.ownBlock.toList:=by
    intro k hk;simp only [List.mem_cons,Option.mem_toList,not_or];exact ⟨by omega,fun h=>by have:=Hov.out _ h;omega⟩
   have cq3:=Ht.out.only.cell cq2 (hn1 _ (Nat.le_refl _));have H3:=zh (H2.out.only Ht.out.only (hn1 _ hsb));have Hw3:=zh (Hw.out.only Ht.out.only (hn1 _ (by omega)));have HA3:=zh ((HA.out.only O3.out (by simp)).only Ht.out.only HA2.out);have T3:Hid (EncTo w wr bb ov ov2):=zh ((EncTo.mk (O3.out.mono (by simp)) (fun _ h=> .inl h)).trans Ht.out);have hszr:=Ht.out.only.size;have hwv:∀ g,ov2.ownBlock=some g→g≠wb:=by
    intro g hg
    rcases Ht.out.new g hg with h|h
    ·have:=Hov.out _ h;omega
    ·omega
   have Hwv:=zh hwv;clear hwv;clear Hlen Ht HA HA2 Hc1 cq2
   go_wp2_with fail
   refine (zHU qp wr (by omega) (by omega)).mono ?_;rintro r w4 ⟨g,rfl,k1,k2,k3⟩;have HI:=zh (IntSlice.of_block (cap:=256) k1);have K3:=zh k3;have Hk2:=zh k2;clear k1 k3 k2
   go_wp2_with fail
   have henc:=zMx _ _ w4 HI.out (by rw [zAE];omega) (HA3.out.only K3.out (by simp));rw [zAE] at henc;refine henc.mono ?_;rintro r w5 ⟨eb,tb,sk,rfl,m1,m2,m3,m4,m5⟩;have O5:=zh (K3.out.trans m2);have M1:=zh m1;have hs4:=K3.out.size;have Hw5:=Hw3.out.only O5.out (by simp);have z2:=ZB Hw5 2;have q2:w5.cell? ⟨wb,2,none⟩=some (.pointer none):=by rw [zA Hw5];rfl
   have HW5:=zh Hw5;clear m1 m2 henc Hw5;go_wp2;go_ret2;have hwb5:wb<w4.heap.size:=by omega
   have hO5:=O5.out;have hset:Only [wb] w5 (w5.setCell ⟨wb,2,none⟩ (.pointer (some ⟨eb,0,none⟩))):=(Only.refl _ w5).setCell (.inl (by simp)) _;refine ⟨sb,wb,eb,tb,sk,ov2,rfl,(H3.out.only hO5 (by simp)).only hset (by simp;omega),?_,M1.out.only hset (by simp;omega) (by simp;omega) (by simp;omega) (by simp [Value.ownBlock]),?_,?_,hsb,by omega,by omega,by omega,by omega⟩
   ·unfold WcIs;rw [zB _ HW5.out]
    rfl
   ·rw [←hjl];exact (Hi.out.only hO5 (by simp) (by simp)).only hset (by simp;omega) (fun g hg=>by simp;exact Hwv.out g hg)
   ·exact ⟨(T3.out.only.trans (hO5.mono (by simp))).setCell (.inr (show w.heap.size≤wb by omega)) _,T3.out.new⟩
  ·skip
   go_wp2_with fail
   refine Hlen.out.mono ?_;rintro r wx ⟨rfl,rfl⟩
   go_wp2_with fail
   refine (zBv bb ov2 _ 1 1 wr Hi.out (by omega) (by omega) (by have:=HG.out;simp;omega)).mono ?_;rintro r wx ⟨rfl,ov3,k1,k2⟩;have hjl:j<zAw bs.length:=by have:=HG.out;unfold zAw at hj ⊢;omega
   have k1':WrIs wx bb ov3 (bs++List.replicate (j+1) 1):=by
    have e:bs++List.replicate j (1:Int)++ZW 1 1=bs++List.replicate (j+1) 1:=by
     rw [List.append_assoc,List.replicate_succ'];rfl
    rw [←e];exact k1
   have hc2:zB9 wx bb 1=bs.length+j+1:=by
    obtain ⟨c,hc⟩:=k1'.cells;rw [zAT (show wx.cell? ⟨bb,1,none⟩=some (.int .i64 ((bs++List.replicate (j+1) (1:Int)).length:Int)) by rw [zA hc];rfl)];simp;omega
   have K1:=zh k1';have K2:=zh (Ht.out.trans k2);have Hc2:=zh hc2;clear k1 k2 k1' hc2;go_wp2
   go_roundw
   case rel=>exact ⟨j+1,ov3,hjl,K1.out,K2.out⟩
   case measure=>
    show (8-zB9 wx bb 1%8)%8<(8-zB9 wr bb 1%8)%8
    have a1:=Hc1.out;have a2:=Hc2.out;have a3:=HG.out;rw [a1,a2];omega
theorem zMF {w:World} {wb sb bb eb tb sk n:Nat} {S:Nat→Value} {D:List Value} {ov eo:Value} {bs:List Int} {e:Enc} {cnt:Int} (hW:WcIs w wb sb bb (.pointer (some ⟨eb,0,none⟩)) false) (hs:BlkIn w sb 75 106 S) (ha:w.ownsRow 0 103 46 (S 23) n D) (h1:S 1=.int .i64 cnt) (hn:cnt≤n) (hb:WrIs w bb ov bs) (he:EncIs w eb tb sk eo e) (hg:e.Good) (hl:e.cost<390000000) (hd:∀ g,eo.ownBlock=some g→ov.ownBlock≠some g):
 Calls Tryz.prog 16 #[.pointer (some ⟨wb,0,none⟩)] w fun r w'=>r=.returned (.int .i64 0)∧∃ eo',WcIs w' wb sb bb (.pointer (some ⟨eb,0,none⟩)) true∧EncIs w' eb tb sk eo' (e.term 1)∧WrIs w' bb ov bs∧Only (wb::eb::sk::eo.ownBlock.toList) w w':=by
 obtain ⟨c0,c1,c2,c3⟩:=hW.cells;obtain ⟨ad,cap,hv⟩:=zEY ha;have s1:w.cell? ⟨sb,1,none⟩=some (.int .i64 cnt):=by rw [hs.cell 1 (by decide),h1]
 have s23:w.cell? ⟨sb,23,none⟩=some (.slice ad n cap):=by rw [hs.cell 23 (by decide),hv]
 have z3:=ZB hW 3;have hne:=hW.ne hb;have hne2:=EncIs.ne hW he;have HW:=zh hW;have HB:=zh hb;have HE:=zh he;have Hne:=zh hne;have Hne2:=zh hne2;have Hg:=zh hg;have Hd:=zh hd;clear hW hb hs ha h1 hv he hne hne2 hg hd
 go_enter Tryz.func16,Tryz.ntmps16
 go_wp2
 go_quiet (fail)
 rename_i nq;have HW1:Hid (WcIs (w.drewN nq) wb sb bb (.pointer (some ⟨eb,0,none⟩)) false):=zh HW.out;have HB1:Hid (WrIs (w.drewN nq) bb ov bs):=zh (HB.out.drewN nq);have HE1:Hid (EncIs (w.drewN nq) eb tb sk eo e):=zh (HE.out.drewN nq);have O1:Hid (Only [] w (w.drewN nq)):=zh ((Only.refl [] w).drewN nq);replace c1:(w.drewN nq).cell? ⟨wb,1,none⟩=some (.pointer (some ⟨bb,0,none⟩)):=c1;replace c2:(w.drewN nq).cell? ⟨wb,2,none⟩=some (.pointer (some ⟨eb,0,none⟩)):=c2;replace c3:(w.drewN nq).cell? ⟨wb,3,none⟩=some (.bool false):=c3;replace z3:(w.drewN nq).frozen? ⟨wb,3,none⟩=false:=z3;clear HW HB HE s1 s23 c0;generalize w.drewN nq=w1 at*;have HW2:=zh (zEg HW1.out);have oS:Only [wb] w1 (w1.setCell ⟨wb,3,none⟩ (.bool true)):=(Only.refl _ w1).setCell (.inl (by simp)) _
 have HB2:=zh (HB1.out.only oS (by simp;exact Ne.symm Hne.out.1) (fun g hg=>by simp;exact Ne.symm (Hne.out.2 g hg).1));have HE2:=zh (HE1.out.only oS (by simp;exact Ne.symm Hne2.out.1) (by simp;exact Ne.symm Hne2.out.2.1) (by simp;exact Ne.symm Hne2.out.2.2.1) (fun g hg=>by simp;exact Ne.symm (Hne2.out.2.2.2 g hg)));have O2:Hid (Only [wb] w (w1.setCell ⟨wb,3,none⟩ (.bool true))):=zh ((O1.out.mono (T:=[wb]) (by simp)).trans oS);clear oS
 go_wp2_with fail
 generalize w1.setCell ⟨wb,3,none⟩ (.bool true)=w2 at*;refine (EncAt.term (EncAt.bare HE2.out Hg.out) 1 (by omega)).mono ?_;rintro r w3 ⟨rfl,eo',q1,q2⟩;have Q1:=zh q1.is;have Q2:=zh q2;clear q1 q2;go_wp2;go_ret;have hs3:=Q2.out.only;have hwn:wb∉eb::sk::eo.ownBlock.toList:=by
  simp only [List.mem_cons,Option.mem_toList,not_or];exact ⟨Hne2.out.1,Hne2.out.2.2.1,fun h=>Hne2.out.2.2.2 wb h rfl⟩
 obtain ⟨cc,hcc⟩:=HB2.out.cells;have hb1:bb∉eb::sk::eo.ownBlock.toList:=by
  simp only [List.mem_cons,Option.mem_toList,not_or];refine ⟨ZC hcc HE2.out.cells (by decide),ZC hcc HE2.out.sts (by decide),fun h=>?_⟩;obtain ⟨cur,hcur⟩:=zD HE2.out.out h;exact absurd rfl (ZC hcc hcur (by decide))
 have hb2:∀ g,ov.ownBlock=some g→g∉eb::sk::eo.ownBlock.toList:=by
  intro g hg;obtain ⟨cur,hcur⟩:=zD HB2.out.out hg;simp only [List.mem_cons,Option.mem_toList,not_or];exact ⟨ZC hcur HE2.out.cells (by decide),ZC hcur HE2.out.sts (by decide),fun h=>Hd.out g h hg⟩
 exact ⟨rfl,eo',HW2.out.only hs3 hwn,Q1.out,HB2.out.only hs3 hb1 hb2,(O2.out.mono (T:=wb::eb::sk::eo.ownBlock.toList) (by simp)).trans (hs3.mono (fun i hi=>List.mem_cons_of_mem _ hi))⟩
theorem zJa {w:World} {wb sb bb eb tb sk:Nat} {ov eo:Value} {bs:List Int} {e:Enc} {over:Bool} (hW:WcIs w wb sb bb (.pointer (some ⟨eb,0,none⟩)) over) (hb:WrIs w bb ov bs) (he:EncIs w eb tb sk eo e) (hsz:(strOfNums (ZP bs)).size+(strOfNums (ZP e.bits)).size≤9223372036854775807):
 Calls Tryz.prog 18 #[.pointer (some ⟨wb,0,none⟩)] w fun r w'=>r=.returned (.string (strOfNums (ZP bs)++strOfNums (ZP e.bits)))∧Only [] w w':=by
 obtain ⟨c0,c1,c2,c3⟩:=hW.cells;have HB:=zh hb;have HE:=zh he;clear hW hb he
 go_enter Tryz.func18,Tryz.ntmps18
 have HQ1:Hid (∀ n,Calls Tryz.prog 43 #[.pointer (some ⟨bb,0,none⟩)] (w.drewN n) fun r w'=>r=.returned (.string (strOfNums (ZP bs)))∧w'=w.drewN n):=zh fun n=>((zGB bb ov bs _ (HB.out.drewN n)).mono fun _ _ ⟨h1,h2⟩=>⟨h1,h2.symm⟩)
 have HQ2:Hid (∀ n,Calls Tryz.prog 44 #[.pointer (some ⟨eb,0,none⟩)] (w.drewN n) fun r w'=>r=.returned (.string (strOfNums (ZP e.bits)))∧w'=w.drewN n):=zh fun n=>((zHN eb tb sk eo e _ (HE.out.drewN n)).mono fun _ _ ⟨h1,h2⟩=>⟨h1,h2.symm⟩)
 obtain ⟨s1,hs1⟩:∃ s,s=strOfNums (ZP bs):=⟨_,rfl⟩;obtain ⟨s2,hs2⟩:∃ s,s=strOfNums (ZP e.bits):=⟨_,rfl⟩;rw [←hs1] at HQ1 ⊢;rw [←hs2] at HQ2 ⊢;rw [←hs1,←hs2] at hsz;have Hbig:=zh (show ¬ (9223372036854775807<s1.size+s2.size) by omega);obtain ⟨y,hy⟩:∃ y,y=s1++s2:=⟨_,rfl⟩;rw [←hy];have Hy:=zh hy;clear hs1 hs2 HB HE hsz hy
 go_wp2_with fail
 refine wp_region_quiet_lit (by kernel_rfl) (by kernel_rfl) ?_
 iterate 10 (quiet_step (first|(go_at_call 43;exact Calls.quiet_of_same (HQ1.out _))|(go_at_call 44;exact Calls.quiet_of_same (HQ2.out _))))
 refine wpQuiet_step (fun K hK=>?_);go_simp;refine ⟨.string y,fun a=>?_,hK _ ?_⟩
 ·rw [if_neg Hbig.out,Hy.out];exact ⟨rfl,rfl⟩
 clear hK K
 quiet_step (fail)
 refine wpQuiet_nil ?_;intro _ hw';obtain ⟨nq,hw''⟩:=hw';subst hw'';go_wp2;go_ret;exact ⟨rfl,(Only.refl [] w).drewN nq⟩
def zN9 (hd:Nat→Value) (wide qp:Int) (s s1:ByteArray) (p:Nat) (w:World) (e:Ending) (w':World):Prop:=∃ (sb rb bb:Nat),e=.returned (.tuple #[.pointer (some ⟨rb,0,none⟩),.int .i64 0])∧BlkIn w' sb 75 106 (stS hd wide qp)∧
 RcIs w' rb sb bb s (.pointer none) 0 0 false∧RdIs w' bb s1 p∧w.heap.size≤sb∧w.heap.size≤rb∧w.heap.size≤bb∧Only [] w w'
theorem zGQ {hd:Nat→Value} {f cnt t a0 a1 qp wide:Int} {a y:Nat} {s s1:ByteArray} {Pc:Array Value} {w:World} (hs:s.size≤140737488355328) (ha:a≤8*s.size) (hs1:s1=s.extract (a/8) s.size) (hy:y<2^(a%8)) (hH:Holds s1 0 (ZW y (a%8))) (hp:Pc[0]? =some (.bool false)) (hh:zCb hd f cnt t a0 a1 qp) (hw:1≤wide∧wide≤8) (hf:0≤f) (hc:1≤cnt) (ht:0≤t∧t≤2) (hq:0≤qp∧qp≤51) (ha0:0≤a0∧a0≤8) (ha1:0≤a1∧a1≤8):
 Calls Tryz.prog 17 #[.string s,.int .i64 a,.agg (hdL hd).toArray,.agg Pc,.int .i64 wide] w (zN9 hd wide qp s s1 (a%8) w):=by
 have hbg:=fun (wx:World)=>zEW (w:=wx) hh hw hf hc ht hq ha0 ha1
 obtain ⟨HL,hHL⟩:∃ HL,HL=hdL hd:=⟨_,rfl⟩;have O1:Hid (Only [] w ((w.alloc (.cells HL.toArray 26)).alloc (.cells Pc 28))):=zh (((Only.refl [] w).alloc _).alloc _);have hr:((w.alloc (.cells HL.toArray 26)).alloc (.cells Pc 28)).rangeAt w.heap.size 0 HL:=fun j v hj=>by
  rw [Nat.zero_add,zA (ZE _ (ZA w _))]
  simpa using hj
 have cp:((w.alloc (.cells HL.toArray 26)).alloc (.cells Pc 28)).cell? ⟨w.heap.size+1,0,none⟩=some (.bool false):=by
  have h:=ZA (w.alloc (.cells HL.toArray 26)) (.cells Pc 28);rw [show (w.alloc (.cells HL.toArray 26)).heap.size=w.heap.size+1 by simp] at h;rw [zA h,hp]
 have hlen:(Tryz.prog.info? 26).map (·.size)=some HL.length:=by rw [hHL];show _=some 21;kernel_rfl
 rw [←hHL] at hbg ⊢;have HBG:=zh hbg;have HR:=zh hr;have HLen:=zh hlen;have HH:=zh hH;have Hy:=zh hy;have Hs1:=zh hs1;obtain ⟨SZ,hSZ⟩:∃ n,n=s.size:=⟨_,rfl⟩;rw [←hSZ] at hs ha;clear hbg hr hlen hHL hh hp hH hy hs1
 go_enter Tryz.func17,Tryz.ntmps17
 go_wp2_with (with_reducible refine wpList_load_mid rfl 26 _ rfl w.heap.size 0 rfl HL _ HR.out Tryz.underlying26 rfl HLen.out ?_)
 refine (HBG.out _).mono ?_;rintro e w1 ⟨sb,rfl,h1,h2,h3⟩;have hsz:w.heap.size+1<((w.alloc (.cells HL.toArray 26)).alloc (.cells Pc 28)).heap.size:=by simp
 have cp1:=h3.cell cp (by simp);have O2:=zh (O1.out.trans h3);have H1:=zh h1;have hsb:w.heap.size≤sb:=by omega
 have hsw:=h3.size;clear h1 h2 h3 cp HR;generalize (w.alloc (.cells HL.toArray 26)).alloc (.cells Pc 28)=wa at*
 go_wp2_with fail
 refine (zHt _ _).mono ?_;rintro r w2 ⟨rfl,k1,k2,k3⟩;rw [←Hs1.out] at k1;have cp2:=k2.cell cp1 (by simp);have ox:=(Only.refl [] w2).alloc (.cells #[.pointer (some ⟨sb,0,none⟩),.string s,.pointer (some ⟨w1.heap.size,0,none⟩),.pointer none,.int .i64 0,.int .i64 0,.bool false] 118);have cp3:=ox.cell cp2 (by simp);have hR:RcIs (w2.alloc (.cells #[.pointer (some ⟨sb,0,none⟩),.string s,.pointer (some ⟨w1.heap.size,0,none⟩),.pointer none,.int .i64 0,.int .i64 0,.bool false] 118)) w2.heap.size sb w1.heap.size s (.pointer none) 0 0 false:=ZA w2 _;have H3:=zh ((H1.out.only k2 (by simp)).only ox (by simp));have O3:=zh ((O2.out.trans k2).trans ox);have HRc:=zh hR;have HRd:=zh (k1.only ox (by simp));have hsb2:sb<w1.heap.size:=lt_of_block H1.out
 have cR:(w2.alloc (.cells #[.pointer (some ⟨sb,0,none⟩),.string s,.pointer (some ⟨w1.heap.size,0,none⟩),.pointer none,.int .i64 0,.int .i64 0,.bool false] 118)).cell? ⟨w2.heap.size,2,none⟩=some (.pointer (some ⟨w1.heap.size,0,none⟩)):=by rw [zA hR];rfl
 have K3:=zh k3;clear k1 k2 k3 cp1 cp2 ox hR H1 O1 O2
 go_wp2_with fail
 have k3:=K3.out;have hs1s:s1.size≤140737488355328:=by
  rw [Hs1.out,ByteArray.size_extract,←hSZ];omega
 have hrd:=zCL w1.heap.size s1 0 y (a%8) _ HRd.out HH.out Hy.out (by omega) hs1s;rw [show ((a%8:Nat):Int)=(a:Int)%8 by omega,Nat.zero_add] at hrd;refine hrd.mono ?_;rintro r w3 ⟨rfl,m1,m2⟩;have cp4:=m2.cell cp3 (by simp;omega);have H4:=zh (H3.out.only m2 (by simp;omega));have hne:w2.heap.size∉[w1.heap.size]:=by simp;omega
 have HR4:=zh (HRc.out.only m2 hne);have O4:Hid (Only [] w w3):=zh (O3.out.trans' m2 (fun i hi=> .inr (by simp at hi;omega)));have M1:=zh m1;clear m1 m2 hrd cp3 H3 O3 HRc HRd cR k3;have hsz2:=zh (show w.heap.size≤w2.heap.size∧w.heap.size≤w1.heap.size by have:=K3.out;omega);clear K3;go_wp2;go_ret2;exact ⟨sb,w2.heap.size,w1.heap.size,rfl,H4.out,HR4.out,M1.out,hsb,hsz2.out.1,hsz2.out.2,O4.out⟩
theorem zMp {w:World} {g:Nat} {qp:Int} (h:w.heap[g]? =some (.cells (ints (zAm qp)) 3 (0,0))):IntSlice w (.slice (some ⟨g,0,none⟩) 256 256) (zAm qp):=by
 have:=IntSlice.of_block (cap:=256) h
 rwa [zAE] at this
def zOE (x y:Nat):Prop:=¬ (y=x)
def zN8 (hd:Nat→Value) (wide qp:Int) (s:ByteArray) (a:Nat) (w:World) (e:Ending) (w':World):Prop:=∃ (sb rb bb db tb sk:Nat),e=.returned (.tuple #[.pointer (some ⟨rb,0,none⟩),.int .i64 0])∧BlkIn w' sb 75 106 (stS hd wide qp)∧
 RcIs w' rb sb bb s (.pointer (some ⟨db,0,none⟩)) ((a+7)/8:Nat) 0 false∧DecIs w' db tb sk (Dec.begin (s.extract ((a+7)/8) s.size) (zAm qp))∧w.heap.size≤sb∧w.heap.size≤rb∧w.heap.size≤bb∧w.heap.size≤db∧w.heap.size≤tb∧w.heap.size≤sk∧Only [] w w'
theorem zGP {hd:Nat→Value} {f cnt t a0 a1 qp wide:Int} {a y:Nat} {s s1:ByteArray} {Pc:Array Value} {w:World} (hs:s.size≤140737488355328) (ha:a≤8*s.size) (hs1:s1=s.extract (a/8) s.size) (hy:y<2^(a%8)) (hH:Holds s1 0 (ZW y (a%8))) (hF:Holds s1 (a%8) (List.replicate (zAw a) 1)) (hA:Asc w) (h17:hd 17=.int .i64 qp) (h0:zp (s.extract ((a+7)/8) s.size)=0) (hp:Pc[0]? =some (.bool true)) (hh:zCb hd f cnt t a0 a1 qp) (hw:1≤wide∧wide≤8) (hf:0≤f) (hc:1≤cnt) (ht:0≤t∧t≤2) (hq:0≤qp∧qp≤51) (ha0:0≤a0∧a0≤8) (ha1:0≤a1∧a1≤8):
 Calls Tryz.prog 17 #[.string s,.int .i64 a,.agg (hdL hd).toArray,.agg Pc,.int .i64 wide] w (zN8 hd wide qp s a w):=by
 have hbg:=fun (wx:World)=>zEW (w:=wx) hh hw hf hc ht hq ha0 ha1
 have hl17:(hdL hd)[17]? =some (.int .i64 qp):=by rw [←h17];rfl
 obtain ⟨HL,hHL⟩:∃ HL,HL=hdL hd:=⟨_,rfl⟩;have O1:Hid (Only [] w ((w.alloc (.cells HL.toArray 26)).alloc (.cells Pc 28))):=zh (((Only.refl [] w).alloc _).alloc _);have hr:((w.alloc (.cells HL.toArray 26)).alloc (.cells Pc 28)).rangeAt w.heap.size 0 HL:=fun j v hj=>by
  rw [Nat.zero_add,zA (ZE _ (ZA w _))]
  simpa using hj
 have cp:((w.alloc (.cells HL.toArray 26)).alloc (.cells Pc 28)).cell? ⟨w.heap.size+1,0,none⟩=some (.bool true):=by
  have h:=ZA (w.alloc (.cells HL.toArray 26)) (.cells Pc 28);rw [show (w.alloc (.cells HL.toArray 26)).heap.size=w.heap.size+1 by simp] at h;rw [zA h,hp]
 have cq:((w.alloc (.cells HL.toArray 26)).alloc (.cells Pc 28)).cell? ⟨w.heap.size,17,none⟩=some (.int .i64 qp):=by
  have h:=hr 17 _ (hHL▸hl17)
  simpa using h
 have hlen:(Tryz.prog.info? 26).map (·.size)=some HL.length:=by rw [hHL];show _=some 21;kernel_rfl
 rw [←hHL] at hbg ⊢;have HBG:=zh hbg;have HF:=zh hF;have HA:=zh hA;have H0:=zh h0;have HR:=zh hr;have HLen:=zh hlen;have HH:=zh hH;have Hy:=zh hy;have Hs1:=zh hs1;obtain ⟨SZ,hSZ⟩:∃ n,n=s.size:=⟨_,rfl⟩;rw [←hSZ] at hs ha;clear hbg hr hlen hHL hh hp hH hy hs1 hF hA h0 h17 hl17
 go_enter Tryz.func17,Tryz.ntmps17
 go_wp2_with (with_reducible refine wpList_load_mid rfl 26 _ rfl w.heap.size 0 rfl HL _ HR.out Tryz.underlying26 rfl HLen.out ?_)
 refine (HBG.out _).mono ?_;rintro e w1 ⟨sb,rfl,h1,h2,h3⟩;have hsz:w.heap.size+1<((w.alloc (.cells HL.toArray 26)).alloc (.cells Pc 28)).heap.size:=by simp
 have cp1:=h3.cell cp (by simp);have cq1:=h3.cell cq (by simp);have O2:=zh (O1.out.trans h3);have H1:=zh h1;have hsb:w.heap.size≤sb:=by omega
 have hsw:=h3.size;clear h1 h2 h3 cp cq HR;generalize (w.alloc (.cells HL.toArray 26)).alloc (.cells Pc 28)=wa at*
 go_wp2_with fail
 refine (zHt _ _).mono ?_;rintro r w2 ⟨rfl,k1,k2,k3⟩;rw [←Hs1.out] at k1;have cp2:=k2.cell cp1 (by simp);have cq2:=k2.cell cq1 (by simp);have ox:=(Only.refl [] w2).alloc (.cells #[.pointer (some ⟨sb,0,none⟩),.string s,.pointer (some ⟨w1.heap.size,0,none⟩),.pointer none,.int .i64 0,.int .i64 0,.bool false] 118);have cp3:=ox.cell cp2 (by simp);have cq3:=ox.cell cq2 (by simp);have hR:RcIs (w2.alloc (.cells #[.pointer (some ⟨sb,0,none⟩),.string s,.pointer (some ⟨w1.heap.size,0,none⟩),.pointer none,.int .i64 0,.int .i64 0,.bool false] 118)) w2.heap.size sb w1.heap.size s (.pointer none) 0 0 false:=ZA w2 _;have H3:=zh ((H1.out.only k2 (by simp)).only ox (by simp));have O3:=zh ((O2.out.trans k2).trans ox);have HRc:=zh hR;have HRd:=zh (k1.only ox (by simp));have hsb2:sb<w1.heap.size:=lt_of_block H1.out
 have cR:(w2.alloc (.cells #[.pointer (some ⟨sb,0,none⟩),.string s,.pointer (some ⟨w1.heap.size,0,none⟩),.pointer none,.int .i64 0,.int .i64 0,.bool false] 118)).cell? ⟨w2.heap.size,2,none⟩=some (.pointer (some ⟨w1.heap.size,0,none⟩)):=by rw [zA hR];rfl
 have K3:=zh k3;clear k1 k2 k3 cp1 cp2 cq1 cq2 ox hR H1 O1 O2
 go_wp2_with fail
 have k3:=K3.out;have hs1s:s1.size≤140737488355328:=by
  rw [Hs1.out,ByteArray.size_extract,←hSZ];omega
 have hrd:=zCL w1.heap.size s1 0 y (a%8) _ HRd.out HH.out Hy.out (by omega) hs1s;rw [show ((a%8:Nat):Int)=(a:Int)%8 by omega,Nat.zero_add] at hrd;refine hrd.mono ?_;rintro r w3 ⟨rfl,m1,m2⟩;have cp4:=m2.cell cp3 (by simp;omega);have cq4:=m2.cell cq3 (by simp;omega);have H4:=zh (H3.out.only m2 (by simp;omega));have hne:w2.heap.size∉[w1.heap.size]:=by simp;omega
 have HR4:=zh (HRc.out.only m2 hne);have O4:Hid (Only [] w w3):=zh (O3.out.trans' m2 (fun i hi=> .inr (by simp at hi;omega)));have M1:=zh m1;clear m1 m2 hrd cp3 cq3 H3 O3 HRc HRd cR k3;have hsz2:=zh (show w.heap.size+1<w2.heap.size∧w.heap.size+1<w1.heap.size by have:=K3.out;omega);clear K3;have z4:=ZB HR4.out 4;have c4:w3.cell? ⟨w2.heap.size,4,none⟩=some (.int .i64 0):=by rw [zA HR4.out];rfl
 go_wp2_with fail
 have hR5:RcIs (w3.setCell ⟨w2.heap.size,4,none⟩ (.int .i64 ((a:Int)/8))) w2.heap.size sb w1.heap.size s (.pointer none) ((a:Int)/8) 0 false:=by
  unfold RcIs;rw [zB _ HR4.out]
  rfl
 have oS:Only [w2.heap.size] w3 (w3.setCell ⟨w2.heap.size,4,none⟩ (.int .i64 ((a:Int)/8))):=(Only.refl _ w3).setCell (.inl (by simp)) _;have hlo:=Hid.out hsz2;have hns:sb∉[w2.heap.size]:=by simp;exact ZC H4.out HR4.out (by decide)
 have H5:=zh (H4.out.only oS hns);have hnb:w1.heap.size∉[w2.heap.size]:=by simp;exact ZC M1.out HR4.out (by decide)
 have M5:=zh (M1.out.only oS hnb);have cq5:=oS.cell cq4 (by simp;omega);have O5:Hid (Only [] w (w3.setCell ⟨w2.heap.size,4,none⟩ (.int .i64 ((a:Int)/8)))):=zh (O4.out.trans' oS (fun i hi=> .inr (by simp at hi;omega)));have HR5:=zh hR5;have hrb:zOE w2.heap.size w1.heap.size:=by unfold zOE;simpa using hnb
 clear cp4 cq4 H4 HR4 O4 M1 z4 c4 hR5 oS hns hnb HBG HH Hy hs1s hlo HLen;obtain ⟨hz1,hz2⟩:=hsz2.out;clear hsz2 hne;generalize w3.setCell ⟨w2.heap.size,4,none⟩ (.int .i64 ((a:Int)/8))=w4 at*;generalize w2.heap.size=rb at*;generalize w1.heap.size=bb at*
 go_loopw [1] (fun i wr=>∃ j F:Nat,j≤zAw a∧i=.int .i64 ((a+j:Nat):Int)∧RdIs wr bb s1 (a%8+j)∧RcIs wr rb sb bb s (.pointer none) F 0 false∧Only [rb,bb] w4 wr∧(j=0→F=a/8)∧(0<j→F=a/8+1)) (fun i _=>((8-intOf i%8)%8).toNat)
 case atStart=>exact ⟨0,a/8,Nat.zero_le _,rfl,M5.out,by have:=HR5.out;simpa using this,Only.refl _ _,fun _=>rfl,fun h=>absurd h (by omega)⟩
 case round=>
  obtain ⟨j,F,hj,rfl,k1,k2,k3,f1,f2⟩:=hrel;have hj7:j≤7:=by unfold zAw at hj;omega
  by_cases hz:(a+j)%8=0
  ·have hjl:j=zAw a:=by unfold zAw at hj ⊢;omega
   have hF:F=(a+7)/8:=by
    rcases Nat.eq_zero_or_pos j with h|h
    ·have:=f1 h;unfold zAw at hjl;omega
    ·have:=f2 h;unfold zAw at hjl;omega
   subst hF;have hsb5:sb∉[rb,bb]:=by
    have n1:=ZC H5.out HR5.out (by decide);have n2:=ZC H5.out M5.out (by decide);simp;exact ⟨n1,n2⟩
   have H6:=zh (H5.out.only k3 hsb5);have cq6:=k3.cell cq5 (by simp;omega);have c46:wr.cell? ⟨rb,4,none⟩=some (.int .i64 ((a+7)/8:Nat)):=by rw [zA k2];rfl
   have O6:Hid (Only [] w wr):=zh (O5.out.trans' k3 (fun i hi=> .inr (by simp at hi;omega)));have HK2:=zh k2;obtain ⟨A,hA⟩:∃ A:Int,A=((a+j:Nat):Int):=⟨_,rfl⟩;have hA8:A%8=0∧0≤A∧A≤4503599627370496:=by omega
   rw [←hA];clear k1 k2 k3 hA hz f1 f2 hjl hj hsb5
   go_wp2_with fail
   obtain ⟨G,hG⟩:∃ G:Int,G=((a+7)/8:Nat):=⟨_,rfl⟩;rw [←hG] at c46;have hG0:0≤G∧G≤(s.size:Int):=by omega
   obtain ⟨hG1,hG2⟩:=hG0;have HG:=zh hG;clear hG
   go_region_held3 (fun w'=>w'.cell? ⟨rb,4,none⟩=some (.int .i64 G)∧w'.cell? ⟨w.heap.size,17,none⟩=some (.int .i64 qp)) (first|exact ⟨c46,cq6⟩|exact ⟨e2,e3⟩|exact ⟨e0,e1⟩|go_keep|assumption)
    (first|(go_at_call 36;refine (zHU qp _ (by omega) (by omega)).mono ?_;rintro r w4 ⟨g,rfl,k1,k2,k3⟩;have e0:=k3.cell (show World.cell? _ ⟨rb,4,none⟩=some (.int .i64 G) by assumption) (by simp);have e1:=k3.cell (show World.cell? _ ⟨w.heap.size,17,none⟩=some (.int .i64 qp) by assumption) (by simp))|(go_at_call 42;refine (zLe _ _ (zAm qp) _ (zMp k1) (by rw [zAE];omega) ((HA.out.only O6.out (by simp)).only ((Only.refl [] wr).drew.trans k3) (by simp)) (by rw [ByteArray.size_extract];omega)).mono ?_;rintro r w5 ⟨db,tb,sk,rfl,q1,q2,q3,q4,q5⟩;have e2:=q2.cell e0 (by simp);have e3:=q2.cell e1 (by simp)))
   have hGt:G.toNat=(a+7)/8:=by have:=HG.out;omega
   have hbp:zA9 (s.extract G.toNat s.size) db=.pointer (some ⟨db,0,none⟩):=by rw [hGt];unfold zA9;rw [if_pos H0.out]
   rw [hbp];rw [hGt,H0.out];rw [hGt,H0.out] at q1;have Q1:=zh (q1 rfl);have oo:Only [] wr w5:=((Only.refl [] wr).drew.trans k3).trans q2;have hK6:=HK2.out.only oo (by simp);have z3:=ZB hK6 3;have c3:w5.cell? ⟨rb,3,none⟩=some (.pointer none):=by rw [zA hK6];rfl
   have HK6:=zh hK6;have OO:=zh oo;have hk3:wr.heap.size≤w4.heap.size:=k3.size;clear hK6 oo q1 q2 k1 k3;go_wp2;go_ret2;have oS:Only [rb] w5 (w5.setCell ⟨rb,3,none⟩ (.pointer (some ⟨db,0,none⟩))):=(Only.refl _ w5).setCell (.inl (by simp)) _;have hs5:BlkIn w5 sb 75 106 (stS hd wide qp):=H6.out.only OO.out (by simp);have hwr:=O6.out.size;have hw5:=OO.out.size;refine ⟨sb,rb,bb,db,tb,sk,rfl,hs5.only oS (by simp;exact ZC hs5 HK6.out (by decide)),?_,Q1.out.only oS (by simp;exact ZC Q1.out.cells HK6.out (by decide)) (by simp;exact ZC Q1.out.tab HK6.out (by decide)) (by simp;exact ZC Q1.out.sts HK6.out (by decide)),by omega,by omega,by omega,by omega,by omega,by omega,(O6.out.trans OO.out).trans' oS (fun i hi=> .inr (by simp at hi;omega))⟩;unfold RcIs;rw [zB _ HK6.out];rw [show (((a+7)/8:Nat):Int)=G from HG.out.symm]
   rfl
  ·have hjl:j<zAw a:=by unfold zAw at hj ⊢;omega
   have c2:=k2.cells.2.2.1;have hH1:Holds s1 (a%8+j) (ZW 1 1):=by
    have h:=HF.out.2 j (by simpa using hjl);have h1:=HF.out.1;refine ⟨by simp at h1 ⊢;show a%8+j+1≤_;omega,fun i hi=>?_⟩;have:i=0:=by have:(ZW 1 1).length=1:=rfl;omega
    subst this;rw [Nat.add_zero,h];simp [List.getD,hjl];rfl
   have HK2:=zh k2;have HK3:=zh k3;have hs1s:s1.size≤140737488355328:=by
    rw [Hs1.out,ByteArray.size_extract,←hSZ];omega
   have hrd:=zCL bb s1 (a%8+j) 1 1 wr k1 hH1 (by omega) (by omega) hs1s;obtain ⟨A,hA⟩:∃ A:Int,A=((a+j:Nat):Int):=⟨_,rfl⟩;have HAj:=zh hA;have hA8:A%8≠0∧0≤A∧A≤4503599627370496:=by omega
   have Hrd:=zh hrd;rw [←hA];have Hz:=zh hz;have Hjl:=zh hjl;have Hj:=zh hj;clear k1 k2 k3 hrd hH1 hA hz f1 f2 hjl hj hs1s
   go_wp2_with fail
   refine Hrd.out.mono ?_;rintro r w5 ⟨rfl,m1,m2⟩;have hK5:=HK2.out.only m2 (by simp;intro e;exact hrb (e▸rfl));have z4:=ZB hK5 4;have c4:w5.cell? ⟨rb,4,none⟩=some (.int .i64 F):=by rw [zA hK5];rfl
   have HK5:=zh hK5;have M1:=zh m1;have O6:=zh (HK3.out.trans (m2.mono (T:=[rb,bb]) (by simp)));clear hK5 m1 m2 Hrd;go_wp2
   go_roundw
   case rel=>
    have hA:=HAj.out;have hz:=Hz.out;have hjl:=Hjl.out;refine ⟨j+1,a/8+1,hjl,by rw [hA];congr 1,?_,?_,O6.out.setCell (.inl (by simp)) _,fun h=>absurd h (by omega),fun _=>rfl⟩
    ·exact M1.out.only ((Only.refl [rb] w5).setCell (.inl (by simp)) _) (by simp;exact fun e=>hrb (e▸rfl))
    ·unfold RcIs;rw [zB _ HK5.out];have e:A/8+1=((a/8+1:Nat):Int):=by unfold zAw at hjl;omega
     rw [e];rfl
   case measure=>
    show ((8-(A+1)%8)%8).toNat<((8-A%8)%8).toNat
    omega
theorem zHu {rb sb bb:Nat} {s:ByteArray} {dv:Value} {fr code:Int} {over:Bool} {w:World} (h:RcIs w rb sb bb s dv fr code over):RcIs (w.setCell ⟨rb,6,none⟩ (.bool true)) rb sb bb s dv fr code true:=by
 unfold RcIs at h ⊢;rw [zB _ h]
 rfl
theorem zMW {w:World} {rb sb bb n q k:Nat} {S:Nat→Value} {D:List Value} {s t:ByteArray} {fr code cnt:Int} (hR:RcIs w rb sb bb t (.pointer none) fr code false) (hs:BlkIn w sb 75 106 S) (ha:w.ownsRow 0 103 46 (S 23) n D) (h1:S 1=.int .i64 cnt) (hn:cnt≤n) (hb:RdIs w bb s q)
 (hq:q+1+k=8*s.size) (hk:k≤7) (hbt:zg s q=1) (hz:∀ j,j<k→zg s (q+1+j)=0) (hss:s.size≤140737488355328):
 Calls Tryz.prog 21 #[.pointer (some ⟨rb,0,none⟩)] w fun e w'=>e=.returned (.int .i64 0)∧Only [rb,bb] w w':=by
 obtain ⟨c0,c1,c2,c3,c4,c5,c6⟩:=hR.cells;obtain ⟨ad,cap,hv⟩:=zEY ha;have s1:w.cell? ⟨sb,1,none⟩=some (.int .i64 cnt):=by rw [hs.cell 1 (by decide),h1]
 have s23:w.cell? ⟨sb,23,none⟩=some (.slice ad n cap):=by rw [hs.cell 23 (by decide),hv]
 have z6:=ZB hR 6;have HR:=zh hR;have HB:=zh hb;have hne:bb≠rb:=ZC hb hR (by decide);have Htr:=zh (fun (wx:World) (h:RdIs wx bb s q)=>zII bb s q k wx h hq hk hbt hz hss);clear hR hb hs ha h1 hv hq hbt hz hss hk
 go_enter Tryz.func21,Tryz.ntmps21
 go_wp2
 go_quiet (fail)
 rename_i nq;have HR1:Hid (RcIs (w.drewN nq) rb sb bb t (.pointer none) fr code false):=zh HR.out;have HB1:Hid (RdIs (w.drewN nq) bb s q):=zh HB.out;have O1:Hid (Only [] w (w.drewN nq)):=zh ((Only.refl [] w).drewN nq);replace c2:(w.drewN nq).cell? ⟨rb,2,none⟩=some (.pointer (some ⟨bb,0,none⟩)):=c2;replace c3:(w.drewN nq).cell? ⟨rb,3,none⟩=some (.pointer none):=c3;replace c6:(w.drewN nq).cell? ⟨rb,6,none⟩=some (.bool false):=c6;replace z6:(w.drewN nq).frozen? ⟨rb,6,none⟩=false:=z6;clear HR HB s1 s23 c0 c1 c4 c5;generalize w.drewN nq=w1 at*;have oS:Only [rb] w1 (w1.setCell ⟨rb,6,none⟩ (.bool true)):=(Only.refl _ w1).setCell (.inl (by simp)) _;have HB2:=zh (HB1.out.only oS (by simpa using hne));have O2:Hid (Only [rb,bb] w (w1.setCell ⟨rb,6,none⟩ (.bool true))):=zh ((O1.out.mono (T:=[rb,bb]) (by simp)).trans (oS.mono (by simp)));clear oS
 go_wp2_with fail
 generalize w1.setCell ⟨rb,6,none⟩ (.bool true)=w2 at*;refine (Htr.out w2 HB2.out).mono ?_;rintro e w3 ⟨rfl,q1,q2⟩;have O3:=zh (O2.out.trans (q2.mono (by simp)));clear q1 q2;go_wp2;go_ret;exact ⟨rfl,O3.out⟩
end Go.Proofs.YtcppbdlmcbjmeaaGreatDoor
