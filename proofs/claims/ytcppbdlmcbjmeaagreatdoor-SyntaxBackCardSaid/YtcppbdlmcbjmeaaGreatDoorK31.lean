/- Lemmas that the law needs, part 31. -/
import Derived.Test.YtcppbdlmcbjmeaaGreatDoorK28
import Derived.Deep.RegionLaw
set_option maxHeartbeats 1600000
set_option maxRecDepth 100000
namespace Go.Proofs.YtcppbdlmcbjmeaaGreatDoor
open Go.RowKit
def zBX (tb sb L:Nat) (s:ByteArray) (pos wid off:Int) (over:Bool):Array Value:=
 #[.pointer (some ⟨tb,0,none⟩),.slice (some ⟨sb,0,none⟩) L L,.string s,.int .i64 pos,.int .i64 wid,.int .i64 off,.bool over]
structure DecIs (w:World) (b tb sb:Nat) (d:Dec):Prop where
 cells:w.heap[b]? =some (.cells (zBX tb sb d.st.length d.s d.pos d.wid d.off d.over) 171 (0,0))
 tab:TableAt w tb
 sts:w.heap[sb]? =some (.cells (ints d.st) 3 (0,0))
theorem DecIs.put {w:World} {b tb sb:Nat} {d:Dec} (h:DecIs w b tb sb d) (i:Nat) (u:Value) (d':Dec) (hst:d'.st=d.st)
 (hc:(zBX tb sb d.st.length d.s d.pos d.wid d.off d.over).setIfInBounds i u=zBX tb sb d.st.length d'.s d'.pos d'.wid d'.off d'.over):
 DecIs (w.setCell ⟨b,i,none⟩ u) b tb sb d':=by
 refine ⟨?_,zC _ h.tab (ZC h.tab h.cells (by decide)),?_⟩
 ·rw [zB _ h.cells,hc,hst]
 ·rw [hst];exact zC _ h.sts (ZC h.sts h.cells (by decide))
theorem DecIs.setState {w:World} {b tb sb:Nat} {d:Dec} (h:DecIs w b tb sb d) (i:Nat) (v:Int):
 DecIs (w.setCell ⟨sb,i,none⟩ (.int .i64 v)) b tb sb { d with st:=d.st.set i v }:=by
 refine ⟨?_,zC _ h.tab (ZC h.tab h.sts (by decide)),?_⟩
 ·have:=zC (i:=i) (.int .i64 v) h.cells (ZC h.cells h.sts (by decide))
  simpa using this
 ·rw [zB _ h.sts,zBu]
theorem DecIs.drew {w:World} {b tb sb:Nat} {d:Dec} (h:DecIs w b tb sb d):DecIs w.drew b tb sb d:=⟨h.cells,h.tab,h.sts⟩
theorem DecIs.drewN {w:World} {b tb sb:Nat} {d:Dec} (h:DecIs w b tb sb d) (n:Nat):DecIs (w.drewN n) b tb sb d:=⟨h.cells,h.tab,h.sts⟩
theorem DecIs.cellsAt {w:World} {b tb sb:Nat} {d:Dec} (h:DecIs w b tb sb d):w.cell? ⟨b,0,none⟩=some (.pointer (some ⟨tb,0,none⟩))∧w.cell? ⟨b,1,none⟩=some (.slice (some ⟨sb,0,none⟩) d.st.length d.st.length)∧
 w.cell? ⟨b,2,none⟩=some (.string d.s)∧w.cell? ⟨b,3,none⟩=some (.int .i64 d.pos)∧w.cell? ⟨b,4,none⟩=some (.int .i64 d.wid)∧w.cell? ⟨b,5,none⟩=some (.int .i64 d.off)∧w.cell? ⟨b,6,none⟩=some (.bool d.over):=by
 refine ⟨?_,?_,?_,?_,?_,?_,?_⟩<;>(rw [zA h.cells];rfl)
theorem DecIs.state {w:World} {b tb sb:Nat} {d:Dec} (h:DecIs w b tb sb d) (i:Nat) (hi:i<d.st.length):w.cell? ⟨sb,i,none⟩=some (.int .i64 (d.st.getD i 0)):=by
 rw [zA h.sts];exact zBh _ _ hi
theorem DecIs.only {S:List Nat} {w w':World} {b tb sb:Nat} {d:Dec} (h:DecIs w b tb sb d) (ho:Only S w w') (h1:b∉S) (h2:tb∉S) (h3:sb∉S):DecIs w' b tb sb d:=
 ⟨ho.heap h.cells h1,h.tab.only ho h2,ho.heap h.sts h3⟩
theorem zFF (b tb sb n:Nat) (d:Dec) (w:World) (hd:DecIs w b tb sb d) (hn:n≤1000) (hp:d.pos≤2251799813685248) (hs:d.s.size≤140737488355328):
 Calls Tryz.prog 80 #[.pointer (some ⟨b,0,none⟩),.int .i64 n] w fun r w'=>r=.returned (.bool (d.has n))∧∃ k,w'=w.drewN k:=by
 obtain ⟨-,-,c2,c3,-,-,-⟩:=hd.cellsAt;have hh:d.has n=decide (d.pos+n≤8*d.s.size):=rfl;have Hh:=zh hh;generalize d.has n=h at*;generalize d.s=s at*;generalize d.pos=p at*;clear hd hh
 go_enter Tryz.func80,Tryz.ntmps80
 go_wp2
 go_quiet (fail)
 go_wp2;go_ret;refine ⟨zB2 ?_,nq,rfl⟩;rw [Hh.out];exact decide_eq_decide.2 (by omega)
theorem zGj (b tb sb:Nat) (d:Dec) (w:World) (hd:DecIs w b tb sb d):
 Calls Tryz.prog 83 #[.pointer (some ⟨b,0,none⟩)] w fun r w'=>r=.returned (.int .i64 (Zc (!d.over)))∧w=w':=by
 obtain ⟨-,-,-,-,-,-,c6⟩:=hd.cellsAt;clear hd;generalize d.over=o at*
 go_enter Tryz.func83,Tryz.ntmps83
 cases o<;>go_wp2<;>go_ret<;>exact ⟨rfl,rfl⟩
theorem zGi (b tb sb n:Nat) (d:Dec) (w:World) (hd:DecIs w b tb sb d) (hn:n≤16) (hs:d.s.size≤140737488355328) (hp:d.pos+n≤8*d.s.size):
 Calls Tryz.prog 81 #[.pointer (some ⟨b,0,none⟩),.int .i64 n] w fun r w'=>r=.returned (.int .i64 (zL d.s d.pos n))∧DecIs w' b tb sb { d with pos:=d.pos+n }∧Only [b] w w':=by
 have Hd:=zh hd;clear hd;obtain ⟨s,hss⟩:∃ s,s=d.s:=⟨_,rfl⟩;obtain ⟨p,hpp⟩:∃ p,p=d.pos:=⟨_,rfl⟩;rw [←hss,←hpp] at hp ⊢;rw [←hss] at hs;have Hs:=zh hss;have Hp:=zh hpp;clear hss hpp
 go_enter Tryz.func81,Tryz.ntmps81
 go_wp2
 go_loopw [5,7] (fun x i wr=>∃ (k:Nat) (y:Int),k≤n∧i=.int .i64 k∧x=.int .i64 y∧Hid (y=zL s p k)∧0≤y∧y<65536∧DecIs wr b tb sb { d with pos:=p+k }∧Only [b] w wr) (fun _ i _=>n-(intOf i).toNat)
 case atStart=>exact ⟨0,0,Nat.zero_le _,rfl,rfl,zh rfl,by omega,by omega,by rw [Hp.out];exact Hd.out,Only.refl _ _⟩
 case round=>
  obtain ⟨k,y,hk,rfl,rfl,hy,hy0,hy1,hi,ho⟩:=hrel
  by_cases hlt:k<n
  ·obtain ⟨-,-,c2,c3,-,-,-⟩:=hi.cellsAt;have z3:=ZB hi.cells 3;rw [show ({ d with pos:=p+k }:Dec).s=s from Hs.out.symm] at c2;have c3':wr.cell? ⟨b,3,none⟩=some (.int .i64 ((p:Int)+k)):=by rw [c3];simp
   obtain ⟨q,r,hqr,hr⟩:∃ q r:Nat,p+k=8*q+r∧r<8:=⟨(p+k)/8,(p+k)%8,by omega,by omega⟩;have hin:q<s.size:=by omega
   have hw8:IntKind.i64.wrap (((p:Int)+k)/8)=(q:Int):=by rw [IntKind.wrap_i64];omega
   have hd8:Int.tdiv ((p:Int)+k) 8=(q:Int):=by rw [Int.tdiv_eq_ediv_of_nonneg (by omega)];omega
   have hwq:IntKind.i64.wrap (q:Int)=(q:Int):=by rw [IntKind.wrap_i64];omega
   have hwr:IntKind.i64.wrap (r:Int)=(r:Int):=by rw [IntKind.wrap_i64];omega
   have hm8:Int.tmod ((p:Int)+k) 8=(r:Int):=by rw [Int.tmod_eq_emod_of_nonneg (by omega)];omega
   have hm9:((p:Int)+k)%8=(r:Int):=by omega
   have hw7:IntKind.i64.wrap (7-(r:Int))=((7-r:Nat):Int):=by rw [IntKind.wrap_i64];omega
   have hw2:IntKind.i64.wrap (2*y)=2*y:=by rw [IntKind.wrap_i64];omega
   have Hi:=zh hi;have Ho:=zh ho;clear hi ho c3;go_wp2
   go_quiet (fail)
   go_wp2
   go_roundw
   case rel=>
    obtain ⟨v,hv⟩:∃ v:Nat,v=s[q].toNat/2^(7-r):=⟨_,rfl⟩;have hv1:((s[q].toNat:Nat):Int)/2^(7-r)=(v:Int):=by rw [hv];simp
    have hv2:v≤255:=by
     have h1:=Nat.div_le_self s[q].toNat (2^(7-r));have h2:=s[q].toNat_lt;omega
    have hb:zg s (p+k)=((v%2:Nat):Int):=by
     unfold zg;rw [show (p+k)/8=q by omega,show (p+k)%8=r by omega,hv];have:s.data.toList.getD q 0=s[q]:=by
      simp only [List.getD,Array.getElem?_toList];rw [Array.getElem?_eq_getElem (show q<s.data.size from hin)]
      rfl
     rw [this]
    have hr1:=zAS s p (k+1);have hr2:zL s p (k+1)=2*y+zg s (p+k):=by rw [hy.out];rfl
    have hpow:(2:Int)^(k+1)≤2^16:=by
     have:2^(k+1)≤2^16:=Nat.pow_le_pow_right (by decide) (by omega)
     exact_mod_cast this
    refine ⟨k+1,2*y+zg s (p+k),by omega,by go_num,?_,zh hr2.symm,by omega,by omega,?_,(Ho.out.drewN nq).setCell (.inl (by simp)) _⟩
    ·rw [hv1,IntWalk.wrap64_in (v:Int) ⟨by omega,by omega⟩]
     try rw [IntWalk.wrap64_in _ ⟨by omega,by omega⟩]
     rw [hb];simp
    ·exact (Hi.out.drewN nq).put 3 _ { d with pos:=p+(k+1) } rfl (by simp [zBX];omega)
   case measure=>simp [intOf]<;>omega
  ·obtain rfl:k=n:=by omega
   rw [hy.out];have H1:=zh hi;have H2:=zh ho;clear hi ho;go_wp2;go_ret;exact ⟨rfl,by rw [Hs.out];exact H1.out,H2.out⟩
theorem zI6 (k:Nat):∀ (w:Int) (j:Nat),j<zAh k w→w*2^j<256:=by
 induction k with
 |zero=>intro w j h;simp [zAh] at h
 |succ k ih=>
  intro w j h
  by_cases hw:w<256
  ·rw [zCR k w hw] at h
   cases j with
   |zero=>simpa using hw
   |succ j=>
    rw [Int.pow_succ,Int.mul_comm _ 2,←Int.mul_assoc,Int.mul_comm w 2];exact ih (2*w) j (by omega)
  ·rw [zCS _ w (by omega)] at h;omega
theorem zJE (a r:Int) (j:Nat) (hj:j≤8) (ha:0≤a) (ha2:a<1024) (hr:0≤r) (hr2:r<2^j):bits .or .i64 (a*2^j) r=a*2^j+r:=by
 obtain ⟨a,rfl⟩:=Int.eq_ofNat_of_zero_le ha;obtain ⟨r,rfl⟩:=Int.eq_ofNat_of_zero_le hr;have hp:2^j≤2^8:=Nat.pow_le_pow_right (by decide) hj;have hr3:r<2^j:=by exact_mod_cast hr2
 have e1:((a:Int)*2^j)=((2^j*a:Nat):Int):=by simp [Int.mul_comm]
 have hb:2^j*a≤256*1024:=Nat.mul_le_mul hp (by omega);have hor:2^j*a|||r=2^j*a+r:=(Nat.two_pow_add_eq_or_of_lt hr3 a).symm
 rw [e1];generalize 2^j*a=x at*;unfold bits
 show IntKind.i64.wrap ((BitVec.ofInt 64 (x:Int)|||BitVec.ofInt 64 (r:Int)).toNat:Int)=_
 have h1:(BitVec.ofInt 64 (x:Int)).toNat=x:=by rw [BitVec.toNat_ofInt];omega
 have h2:(BitVec.ofInt 64 (r:Int)).toNat=r:=by rw [BitVec.toNat_ofInt];omega
 rw [BitVec.toNat_or,h1,h2,hor,IntKind.wrap_i64];omega
def zH7 (ok:Bool):Int:=if ok then 0 else 500
def Dec.normalIf (d:Dec) (ok:Bool) (w o:Int):Dec:=if ok then d.normal w o else d
theorem Dec.normalIf_yes (d:Dec) (w o:Int) (n:Nat) (h:n=zAh 8 w):d.normalIf true w o={ d with wid:=w*2^n,off:=o*2^n+zL d.s d.pos n,pos:=d.pos+n }:=by rw [h];rfl
theorem Dec.normalIf_no (d:Dec) (w o:Int):d.normalIf false w o=d:=rfl
theorem zFH (b tb sb:Nat) (d:Dec) (wi o:Int) (w:World) (hd:DecIs w b tb sb d) (h0:2≤wi) (h1:wi≤510) (h2:0≤o) (h3:o<wi) (hs:d.s.size≤140737488355328) (hp:d.pos≤8*d.s.size):
 Calls Tryz.prog 84 #[.pointer (some ⟨b,0,none⟩),.int .i64 wi,.int .i64 o] w fun r w'=>r=.returned (.int .i64 (zH7 (d.has (zAh 8 wi))))∧DecIs w' b tb sb (d.normalIf (d.has (zAh 8 wi)) wi o)∧Only [b] w w':=by
 have Hd:=zh hd;have hnl:=zMf 8 wi;have hnb:=zI6 8 wi;have hnw:=zE0 8 wi (by omega);have hnt:=zIQ 8 wi h1;obtain ⟨N,hN⟩:∃ N,N=zAh 8 wi:=⟨_,rfl⟩;have hno:=d.normalIf_yes wi o N hN;have Hno:=zh hno;rw [←hN] at hnl hnb hnw hnt ⊢;have Hnb:=zh hnb;have Hnw:=zh hnw;have Hnt:=zh hnt;clear hd hnb hnw hnt hN hno
 go_enter Tryz.func84,Tryz.ntmps84
 go_wp2
 go_loop [7] (fun i=>∃ j:Nat,j≤N∧i=.int .i64 j) (fun i=>N-(intOf i).toNat)
 case atStart=>exact ⟨0,Nat.zero_le _,rfl⟩
 case round=>
  obtain ⟨j,hj,rfl⟩:=hrel
  by_cases hlt:j<N
  ·have hx:=Hnb.out j hlt;have hx0:0<wi*2^j:=Int.mul_pos (by omega) (Int.pow_pos (by decide));go_wp2
   go_round
   case rel=>exact ⟨j+1,by omega,by go_num⟩
   case measure=>simp [intOf]<;>omega
  ·obtain rfl:j=N:=by omega
   have hx:=Hnw.out;have hx2:=Hnt.out
   go_wp2_with fail
   refine (zFF b tb sb j d w Hd.out (by omega) (by omega) hs).mono ?_;rintro r w1 ⟨rfl,nq,rfl⟩
   by_cases hh:d.has j=true
   ·have hhp:d.pos+j≤8*d.s.size:=by unfold Dec.has at hh;simpa using hh
    have hd2:=(Hd.out.drewN nq).drew;go_wp2
    go_region_held3 (fun w'=>w'.heap.size=w'.heap.size) (rfl)
     (first|(go_at_call 81;refine (zGi b tb sb j d _ hd2 (by omega) hs hhp).mono ?_;rintro r2 w2 ⟨rfl,g1,g2⟩;have z4:=ZB g1.cells 4;have z5:=ZB g1.cells 5;obtain ⟨-,-,-,-,e4,e5,-⟩:=g1.cellsAt))
    have hsz:0<(2:Int)^j:=Int.pow_pos (by decide);have ho2:o*2^j<wi*2^j:=Int.mul_lt_mul_of_pos_right h3 hsz;have ho3:0≤o*2^j:=Int.mul_nonneg h2 (Int.le_of_lt hsz);have hrr:=zAS d.s d.pos j;have e1:IntKind.i64.wrap (wi*2^j)=wi*2^j:=by rw [IntKind.wrap_i64];omega
    have e2:IntKind.i64.wrap (o*2^j)=o*2^j:=by rw [IntKind.wrap_i64];omega
    rw [e1,e2,zJE o (zL d.s d.pos j) j (by omega) h2 (by omega) hrr.1 hrr.2];have H1:Hid (DecIs ((w2.setCell ⟨b,4,none⟩ (.int .i64 (wi*2^j))).setCell ⟨b,5,none⟩ (.int .i64 (o*2^j+zL d.s d.pos j))) b tb sb (d.normalIf (d.has j) wi o)):=zh (by
     rw [hh,Hno.out];have k1:DecIs (w2.setCell ⟨b,4,none⟩ (.int .i64 (wi*2^j))) b tb sb { d with pos:=d.pos+j,wid:=wi*2^j }:=g1.put 4 (.int .i64 (wi*2^j)) { d with pos:=d.pos+j,wid:=wi*2^j } rfl rfl;exact k1.put 5 _ _ rfl rfl)
    have H2:Hid (Only [b] w ((w2.setCell ⟨b,4,none⟩ (.int .i64 (wi*2^j))).setCell ⟨b,5,none⟩ (.int .i64 (o*2^j+zL d.s d.pos j)))):=zh (((((Only.refl _ _).drewN nq).drew.trans g2).setCell (.inl (by simp)) _).setCell (.inl (by simp)) _);have Hh:=zh hh;clear g1 g2 e4 e5 z4 z5 hh;go_wp2;go_ret;exact ⟨zq (by rw [Hh.out];rfl),H1.out,H2.out⟩
   ·have hh':d.has j=false:=by simpa using hh
    rw [hh'];have Hh:=zh hh';clear hh hh';go_wp2;go_ret;rw [Hh.out];exact ⟨rfl,by rw [Dec.normalIf_no];exact Hd.out.drewN nq,(Only.refl _ _).drewN nq⟩
theorem zIy (s:ByteArray) (p:Nat):zL s p 1=zg s p:=by simp [zL]
theorem zH6 (b tb sb:Nat) (d:Dec) (w:World) (hd:DecIs w b tb sb d) (hok:d.Ok) (hs:d.s.size≤140737488355328):
 Calls Tryz.prog 247 #[.pointer (some ⟨b,0,none⟩)] w fun r w'=>r=.returned (.tuple #[.int .i64 d.bypass.1,.int .i64 d.bypass.2.1])∧DecIs w' b tb sb d.bypass.2.2∧Only [b] w w':=by
 have hmay:=zGj b tb sb d w hd;have hpos:=hok.pos;have Hd:=zh hd
 cases hov:d.over
 ·rw [hov] at hmay;have hw1:=hok.wid1;have ho0:=hok.off0;have ho1:=hok.off1 hov;have Hmay:=zh hmay
  cases hh:d.has 1
  ·have hb:d.bypass=(0,500,d):=by unfold Dec.bypass;simp [hov,hh]
   rw [hb];clear hd hmay
   go_enter Tryz.func247,Tryz.ntmps247
   go_wp2_with fail
   refine Hmay.out.mono ?_;rintro r0 w0 ⟨rfl,rfl⟩;rw [show Zc (!false)=0 from rfl]
   go_wp2_with fail
   refine (zFF b tb sb 1 d w Hd.out (by omega) (by omega) hs).mono ?_;rintro r w1 ⟨rfl,nq,rfl⟩;rw [hh];go_wp2;go_ret2;exact ⟨rfl,Hd.out.drewN nq,(Only.refl _ _).drewN nq⟩
  ·have hhp:d.pos+1≤8*d.s.size:=by unfold Dec.has at hh;simpa using hh
   have hbit:=zDV d.s d.pos;clear hd hmay
   go_enter Tryz.func247,Tryz.ntmps247
   go_wp2_with fail
   refine Hmay.out.mono ?_;rintro r0 w0 ⟨rfl,rfl⟩;rw [show Zc (!false)=0 from rfl]
   go_wp2_with fail
   refine (zFF b tb sb 1 d w Hd.out (by omega) (by omega) hs).mono ?_;rintro r w1 ⟨rfl,nq,rfl⟩;rw [hh];have hd2:=(Hd.out.drewN nq).drew;obtain ⟨-,-,-,-,-,c5,-⟩:=hd2.cellsAt;have c5':w.cell? ⟨b,5,none⟩=some (.int .i64 d.off):=c5;go_wp2
   go_region_law (first|(go_simp;go_at_call 81;refine (zGi b tb sb 1 d (w.drewN nq).drew hd2 (by omega) hs hhp).mono ?_;rintro r2 w2 ⟨rfl,g1,g2⟩;have z5:=ZB g1.cells 5;obtain ⟨-,-,-,-,e4,e5,-⟩:=g1.cellsAt))
   all_goals
    obtain ⟨o2,ho2⟩:∃ o2,o2=2*d.off+zg d.s d.pos:=⟨_,rfl⟩;have e1:IntKind.i64.wrap (2*d.off)=2*d.off:=by rw [IntKind.wrap_i64];omega
    have e2:IntKind.i64.wrap (2*d.off+zg d.s d.pos)=o2:=by rw [IntKind.wrap_i64];omega
    rw [zIy,e1,e2];have k1:DecIs (w2.setCell ⟨b,5,none⟩ (.int .i64 o2)) b tb sb { d with pos:=d.pos+1,off:=o2 }:=g1.put 5 (.int .i64 o2) { d with pos:=d.pos+1,off:=o2 } rfl rfl;have k2:Only [b] w (w2.setCell ⟨b,5,none⟩ (.int .i64 o2)):=(((Only.refl _ _).drewN nq).drew.trans g2).setCell (.inl (by simp)) _;generalize w2.setCell ⟨b,5,none⟩ (.int .i64 o2)=wq at*;obtain ⟨-,-,-,-,f4,f5,-⟩:=k1.cellsAt;have f4':wq.cell? ⟨b,4,none⟩=some (.int .i64 d.wid):=f4;have f5':wq.cell? ⟨b,5,none⟩=some (.int .i64 o2):=f5;have y5:=ZB k1.cells 5;have hby:d.bypass=if d.wid≤o2 then (1,0,{ d with off:=o2-d.wid,pos:=d.pos+1 }) else (0,0,{ d with off:=o2,pos:=d.pos+1 }):=by
     unfold Dec.bypass;rw [hov,hh,ho2]
     rfl
    have Hby:=zh hby;have hb0:0≤o2:=by omega
    have hb1:o2≤2000:=by omega
    have hb2:o2-d.wid<510:=by omega
    have K1:=zh k1;have K2:=zh k2;clear g1 g2 e4 e5 z5 f4 f5 k1 k2 hd2 c5 c5' hby ho2 e1 e2
    by_cases hge:d.wid≤o2
    ·go_wp2
     go_quiet (fail)
     go_wp2
     go_region
     go_wp2;go_ret2;rw [Hby.out,if_pos hge];exact ⟨rfl,(K1.out.drewN _).put 5 _ _ rfl rfl,(K2.out.drewN _).setCell (.inl (by simp)) _⟩
    ·go_wp2
     go_quiet (fail)
     go_wp2;go_ret2;rw [Hby.out,if_neg (by omega)];exact ⟨rfl,K1.out.drewN _,K2.out.drewN _⟩
 ·have hb:d.bypass=(0,501,d):=by unfold Dec.bypass;simp [hov]
  rw [hb];rw [hov] at hmay;have Hmay:=zh hmay;clear hd hmay
  go_enter Tryz.func247,Tryz.ntmps247
  go_wp2_with fail
  refine Hmay.out.mono ?_;rintro r0 w0 ⟨rfl,rfl⟩;rw [show Zc (!true)=501 from rfl];go_wp2;go_ret2;exact ⟨rfl,Hd.out,Only.refl _ _⟩
theorem zKd (b tb sb:Nat) (d:Dec) (w:World) (hd:DecIs w b tb sb d) (hok:d.Ok) (hs:d.s.size≤140737488355328):
 Calls Tryz.prog 47 #[.pointer (some ⟨b,0,none⟩)] w fun r w'=>r=.returned (.tuple #[.int .i64 d.term.1,.int .i64 d.term.2.1])∧DecIs w' b tb sb d.term.2.2∧Only [b] w w':=by
 have hmay:=zGj b tb sb d w hd;have hpos:=hok.pos;have Hd:=zh hd
 cases hov:d.over
 ·rw [hov] at hmay;have hw1:=hok.wid1;have hw2:=hok.wid2 hov;have ho0:=hok.off0;have ho1:=hok.off1 hov;have Hmay:=zh hmay;obtain ⟨-,-,-,-,c4,c5,c6⟩:=hd.cellsAt;rw [hov] at c6;have z4:=ZB hd.cells 4;have z6:=ZB hd.cells 6
  by_cases hge:d.wid-2≤d.off
  ·have hb:d.term=(1,0,{ d with wid:=d.wid-2,over:=true }):=by unfold Dec.term;simp [hov,hge]
   rw [hb];clear hd hmay
   go_enter Tryz.func47,Tryz.ntmps47
   go_wp2_with fail
   refine Hmay.out.mono ?_;rintro r0 w0 ⟨rfl,rfl⟩;rw [show Zc (!false)=0 from rfl];go_wp2
   go_quiet (fail)
   go_wp2;go_ret2;have k1:DecIs ((w.drewN nq).setCell ⟨b,4,none⟩ (.int .i64 (d.wid-2))) b tb sb { d with wid:=d.wid-2 }:=(Hd.out.drewN nq).put 4 _ _ rfl rfl;exact ⟨rfl,k1.put 6 _ _ rfl rfl,(((Only.refl _ _).drewN nq).setCell (.inl (by simp)) _).setCell (.inl (by simp)) _⟩
  ·have hb:d.term=(0,zH7 (d.has (zAh 8 (d.wid-2))),d.normalIf (d.has (zAh 8 (d.wid-2))) (d.wid-2) d.off):=by
    unfold Dec.term Dec.normalIf zH7;rw [hov];simp only [Bool.false_eq_true,if_false,if_neg hge]
    split<;>rfl
   rw [hb];clear hd hmay
   go_enter Tryz.func47,Tryz.ntmps47
   go_wp2_with fail
   refine Hmay.out.mono ?_;rintro r0 w0 ⟨rfl,rfl⟩;rw [show Zc (!false)=0 from rfl];go_wp2
   go_quiet (fail)
   go_wp2;have hd2:=(Hd.out.drewN nq).drew;have hwr:IntKind.i64.wrap (d.wid-2)=d.wid-2:=by rw [IntKind.wrap_i64];omega
   have ho3:d.off<d.wid-2:=by omega
   go_region_law (first|(go_simp;go_at_call 84;refine (zFH b tb sb d (d.wid-2) d.off (w.drewN nq).drew hd2 (by omega) (by omega) ho0 ho3 hs hpos).mono ?_;rintro r2 w2 ⟨rfl,g1,g2⟩))
   all_goals
    have K1:=zh g1;have K2:Hid (Only [b] w w2):=zh ((((Only.refl _ _).drewN nq).drew).trans g2);clear g1 g2;go_wp2;go_ret2;exact ⟨rfl,K1.out,K2.out⟩
 ·have hb:d.term=(0,501,d):=by unfold Dec.term;simp [hov]
  rw [hb];rw [hov] at hmay;have Hmay:=zh hmay;clear hd hmay
  go_enter Tryz.func47,Tryz.ntmps47
  go_wp2_with fail
  refine Hmay.out.mono ?_;rintro r0 w0 ⟨rfl,rfl⟩;rw [show Zc (!true)=501 from rfl];go_wp2;go_ret2;exact ⟨rfl,Hd.out,Only.refl _ _⟩
theorem zH5 (b tb sb:Nat) (e:Dec) (w:World) (he:DecIs w b tb sb e) (hl:e.st.length<17592186044415):
 Calls Tryz.prog 268 #[.pointer (some ⟨b,0,none⟩)] w fun r w'=>∃ v,r=.returned v∧w'.ownsRow w.heap.size 3 1 v e.st.length (e.st.map (Value.int .i64))∧Only [] w w':=by
 obtain ⟨-,c1,-,-,-,-,-⟩:=he.cellsAt;have hst:=he.state;obtain ⟨L,hL⟩:∃ L,L=e.st.length:=⟨_,rfl⟩;rw [←hL] at c1 hl hst ⊢;obtain ⟨news,hnews⟩:∃ n,n=e.st.map (Value.int .i64):=⟨_,rfl⟩;have hnl:news.length=L*1:=by rw [hnews,hL];simp
 have hnc:∀ j u,news[j]? =some u→w.cell? ((⟨sb,0,none⟩:Addr).add j)=some u:=by
  intro j u hj;rw [hnews,List.getElem?_map] at hj
  by_cases h:j<e.st.length
  ·simp only [List.getElem?_eq_getElem h,Option.map_some,Option.some.injEq] at hj;have:=hst j (by omega);simp only [List.getD,List.getElem?_eq_getElem h,Option.getD_some] at this;rw [←hj,←this,Addr.add_lit,Nat.zero_add]
  ·simp [List.getElem?_eq_none (by omega:e.st.length≤j)] at hj
 have hn1:∀ u∈news,u.oneCell'=true:=by
  intro u hu;rw [hnews] at hu;obtain ⟨x,_,rfl⟩:=List.mem_map.1 hu
  rfl
 rw [←hnews];clear hst he hnews hL
 go_enter Tryz.func268,Tryz.ntmps268
 by_cases hz:L=0
 ·subst hz;have hne:news=[]:=List.eq_nil_of_length_eq_zero (by omega);subst hne;go_wp2;go_ret;exact ⟨_,rfl,World.ownsRow_nil _ _ _ _,Only.refl _ _⟩
 ·go_wp2_with (at_builtin;refine zAo rfl _ _ rfl zEQ w.heap.size (.slice none 0 0) 0 [] rfl (World.ownsRow_nil _ _ _ _) ⟨sb,0,none⟩ L L news rfl hnl hnc hn1 (by omega) (by omega) (by omega) (Nat.le_refl _) ?_)
  intro g cap w2 hp;have h1:=zS (m:=L) (ys:=news) hp.1 (by omega) (by simp);have h2:Only [] w w2:=(Only.refl _ _).grown hp.2.1 (fun k hk=>by simp [Value.ownBlock] at hk);clear hp hnc hn1;have H1:=zh h1;go_wp2;go_ret;exact ⟨_,rfl,zS H1.out rfl rfl,h2⟩
def zp (s:ByteArray):Int:=if s.size<2 then 500 else if 510≤zL s 0 9 then 501 else 0
def zA9 (s:ByteArray) (b:Nat):Value:=if zp s=0 then .pointer (some ⟨b,0,none⟩) else .pointer none
theorem zM3 (s:ByteArray) (xs:List Int) (h:zp s=0):(Dec.begin s xs).Ok:=by
 unfold zp at h
 by_cases h1:s.size<2
 ·rw [if_pos h1] at h;omega
 ·rw [if_neg h1] at h
  by_cases h2:510≤zL s 0 9
  ·rw [if_pos h2] at h;omega
  ·have:=zAS s 0 9;exact ⟨zDW xs,this.1,fun _=>by show zL s 0 9<510;omega,by show (254:Int)≤510;omega,fun _=>by show (256:Int)≤510;omega,Int.le_refl _,by show zL s 0 9<510;omega,by show 9≤8*s.size;omega⟩
theorem zLe (s:ByteArray) (v:Value) (xs:List Int) (w:World) (hv:IntSlice w v xs) (hl:xs.length≤17592186044414) (ha:Asc w) (hs:s.size≤140737488355328):
 Calls Tryz.prog 42 #[.string s,v] w fun r w'=>∃ b tb sb,r=.returned (.tuple #[zA9 s b,.int .i64 (zp s)])∧(zp s=0→DecIs w' b tb sb (Dec.begin s xs))∧Only [] w w'∧w.heap.size≤b∧w.heap.size≤tb∧w.heap.size≤sb:=by
 have Ha:=zh ha;have Hv:=zh hv
 go_enter Tryz.func42,Tryz.ntmps42
 go_wp2_with fail
 refine (zFG w ha).mono ?_;rintro r1 w1 ⟨rfl,ht,ho⟩;have Ht:=zh ht;have Ho:=zh ho;clear ht
 go_wp2_with fail
 refine (zHO v xs w1 (hv.only ho (by simp)) hl).mono ?_;rintro r2 w2 ⟨sb,rfl,hsb,hst,ho2⟩;have htb:=Ht.out.only ho2 (by simp);have Htb:=zh htb;have Hst:=zh hst;have Ho2:=zh (ho.trans ho2);have Hsb:=zh (Nat.le_trans Ho.out.size hsb);clear htb hst ho ho2 hsb;obtain ⟨d0,hd0⟩:∃ d0:Dec,d0=⟨Zl xs,s,0,510,0,false⟩:=⟨_,rfl⟩;have h0:DecIs (w2.alloc (.cells (zBX w.heap.size sb xs.length s 0 510 0 false) 171)) w2.heap.size w.heap.size sb d0:=by
  refine ⟨?_,ZE _ Htb.out,?_⟩
  ·rw [ZA,hd0]
   show _=some (Obj.cells (zBX _ _ (Zl xs).length _ _ _ _ _) _ _)
   rw [zBl]
   rfl
  ·rw [hd0];exact ZE _ Hst.out
 have hst0:d0.s=s:=by rw [hd0]
 have hp0:d0.pos=0:=by rw [hd0]
 have H0:=zh h0;have Hon:=zh (Ho2.out.alloc (.cells (zBX w.heap.size sb xs.length s 0 510 0 false) 171));have Hnew:=zh Ho2.out.size;have hhas:d0.has 9=decide (2≤s.size):=by unfold Dec.has;rw [hp0,hst0];exact decide_eq_decide.2 (by omega)
 have hin2:w2.heap.size<(w2.alloc (.cells (zBX w.heap.size sb xs.length s 0 510 0 false) 171)).heap.size:=by simp
 have Hd0:=zh hd0;clear h0 hd0
 by_cases hsz:2≤s.size
 ·rw [show decide (2≤s.size)=true by simp [hsz]] at hhas
  go_wp2_with fail
  refine (zFF w2.heap.size w.heap.size sb 9 d0 _ H0.out (by omega) (by omega) (by rw [hst0];exact hs)).mono ?_;rintro r w3 ⟨rfl,nq,rfl⟩;rw [hhas]
  go_wp2_with fail
  refine (zGi w2.heap.size w.heap.size sb 9 d0 _ (H0.out.drewN nq) (by omega) (by rw [hst0];exact hs) (by rw [hst0,hp0];omega)).mono ?_;rintro r w3 ⟨rfl,g1,g2⟩;rw [hst0,hp0];obtain ⟨o,ho⟩:∃ o,o=zL s 0 9:=⟨_,rfl⟩;have hor:=zAS s 0 9;rw [←ho] at hor ⊢;obtain ⟨hor0,hor1⟩:=hor;have k1:DecIs (w3.setCell ⟨w2.heap.size,5,none⟩ (.int .i64 o)) w2.heap.size w.heap.size sb (Dec.begin s xs):=by
   have e1:=g1.put 5 (.int .i64 o) { d0 with pos:=d0.pos+9,off:=o } rfl rfl;rw [Hd0.out,ho] at e1;rw [ho];exact e1
  have k2:Only [] w (w3.setCell ⟨w2.heap.size,5,none⟩ (.int .i64 o)):=by
   have e2:Only [w2.heap.size] w (w3.setCell ⟨w2.heap.size,5,none⟩ (.int .i64 o)):=((Hon.out.mono (by simp)).drewN nq |>.trans g2).setCell (.inl (by simp)) _;exact ⟨e2.os,e2.tape,e2.output,e2.size,fun k hk _=>e2.block k hk (by have:=Hnew.out;simp;omega)⟩
  have z5:=ZB g1.cells 5;have c5:=g1.cellsAt.2.2.2.2.2.1;have c4:=g1.cellsAt.2.2.2.2.1;have c4':w3.cell? ⟨w2.heap.size,4,none⟩=some (.int .i64 510):=by rw [c4];dsimp only;rw [Hd0.out]
  have Ho:=zh ho;have K1:=zh k1;have K2:=zh k2;clear g1 g2 c4 ho k1 k2;go_wp2;generalize w3.setCell ⟨w2.heap.size,5,none⟩ (.int .i64 o)=w4 at*;have e4:=K1.out.cellsAt.2.2.2.2.1;have e5:=K1.out.cellsAt.2.2.2.2.2.1;have e4':w4.cell? ⟨w2.heap.size,4,none⟩=some (.int .i64 510):=e4;have e5':w4.cell? ⟨w2.heap.size,5,none⟩=some (.int .i64 o):=by rw [e5];show some (Value.int .i64 (zL s 0 9))=_;rw [Ho.out]
  clear e4 e5 c5 c4' z5
  by_cases hge:510≤o
  ·have hbc:zp s=501:=by unfold zp;rw [if_neg (by omega),if_pos (by rw [←Ho.out];exact hge)]
   have hbp:zA9 s w2.heap.size=.pointer none:=by unfold zA9;rw [if_neg (by rw [hbc];decide)]
   have Hbc:=zh hbc;have Hbp:=zh hbp;clear hbc hbp
   go_quiet (fail)
   go_wp2;go_ret2;exact ⟨w2.heap.size,w.heap.size,sb,by rw [Hbc.out,Hbp.out];rfl,fun h=>by rw [Hbc.out] at h;omega,K2.out.drewN _,Hnew.out,Nat.le_refl _,Hsb.out⟩
  ·have hbc:zp s=0:=by unfold zp;rw [if_neg (by omega),if_neg (by rw [←Ho.out];exact hge)]
   have hbp:zA9 s w2.heap.size=.pointer (some ⟨w2.heap.size,0,none⟩):=by unfold zA9;rw [if_pos hbc]
   have Hbc:=zh hbc;have Hbp:=zh hbp;clear hbc hbp
   go_quiet (fail)
   go_wp2;go_ret2;exact ⟨w2.heap.size,by rw [Hbc.out,Hbp.out];rfl,w.heap.size,sb,fun _=>K1.out.drewN _,K2.out.drewN _,Hnew.out,Nat.le_refl _,Hsb.out⟩
 ·have hbc:zp s=500:=by unfold zp;rw [if_pos (by omega)]
  have hbp:zA9 s w2.heap.size=.pointer none:=by unfold zA9;rw [if_neg (by rw [hbc];decide)]
  rw [show decide (2≤s.size)=false by simp [hsz]] at hhas;have Hbc:=zh hbc;have Hbp:=zh hbp;clear hbc hbp
  go_wp2_with fail
  refine (zFF w2.heap.size w.heap.size sb 9 d0 _ H0.out (by omega) (by omega) (by rw [hst0];exact hs)).mono ?_;rintro r w3 ⟨rfl,nq,rfl⟩;rw [hhas];go_wp2;go_ret2;refine ⟨w2.heap.size,w.heap.size,sb,by rw [Hbc.out,Hbp.out];rfl,fun h=>by rw [Hbc.out] at h;omega,Hon.out.drewN nq,Hnew.out,Nat.le_refl _,Hsb.out⟩
theorem Dec.split_yes (d:Dec) (c:Nat) (s l:Int) (hs:d.st.getD c 0=s) (hl:d.lessOf c=l) (h:d.wid-l≤d.off):d.split c=(1-s%2,l,d.off-(d.wid-l)):=by
 unfold Dec.split;dsimp only;rw [hl,if_pos h,hs]
theorem Dec.split_no (d:Dec) (c:Nat) (s l:Int) (hs:d.st.getD c 0=s) (hl:d.lessOf c=l) (h:¬ d.wid-l≤d.off):d.split c=(s%2,d.wid-l,d.off):=by
 unfold Dec.split;dsimp only;rw [hl,if_neg h,hs]
theorem Dec.bin_yes (d:Dec) (c:Int) (p:Int×Int×Int) (hc:d.can c=true) (hp:d.split c.toNat=p) (hh:d.has (zAh 8 p.2.1)=true):
 d.bin c=(p.1,0,{ d.normal p.2.1 p.2.2 with st:=d.st.set c.toNat (zo (d.st.getD c.toNat 0) (p.1==d.st.getD c.toNat 0%2)) }):=by
 unfold Dec.bin;rw [if_pos hc];dsimp only;rw [hp,if_pos hh]
theorem Dec.bin_end (d:Dec) (c:Int) (p:Int×Int×Int) (hc:d.can c=true) (hp:d.split c.toNat=p) (hh:d.has (zAh 8 p.2.1)=false):d.bin c=(0,500,d):=by
 unfold Dec.bin;rw [if_pos hc];dsimp only;rw [hp,if_neg (by rw [hh];decide)]
theorem Dec.bin_no (d:Dec) (c:Int) (hc:d.can c=false):d.bin c=(0,501,d):=by
 unfold Dec.bin;rw [if_neg (by rw [hc];decide)]
theorem zLf (b tb sb:Nat) (d:Dec) (c:Int) (w:World) (hd:DecIs w b tb sb d) (hok:d.Ok) (hs:d.s.size≤140737488355328):
 Calls Tryz.prog 258 #[.pointer (some ⟨b,0,none⟩),.int .i64 c] w fun r w'=>r=.returned (.tuple #[.int .i64 (d.bin c).1,.int .i64 (d.bin c).2.1])∧DecIs w' b tb sb (d.bin c).2.2∧Only [b,sb] w w':=by
 have hmay:=zGj b tb sb d w hd;have hpos:=hok.pos;have Hd:=zh hd
 by_cases hcan:d.can c=true
 ·have hov:d.over=false:=by unfold Dec.can at hcan;rw [Bool.and_eq_true] at hcan;simpa using hcan.1
  have hc:0≤c∧c<d.st.length:=by unfold Dec.can at hcan;rw [Bool.and_eq_true] at hcan;simpa using hcan.2
  obtain ⟨hc0,hc1⟩:=hc;obtain ⟨i,rfl⟩:=Int.eq_ofNat_of_zero_le hc0;have hst:=hok.st i;obtain ⟨k,r,hkr,hk,hr⟩:=zC0 (d.st.getD i 0) hst.1 hst.2;have hw0:=hok.wid2 hov;have hw1:=hok.wid1;have ho0:=hok.off0;have ho1:=hok.off1 hov;obtain ⟨q,hq,hq4⟩:∃ q:Nat,d.wid/64%4=q∧q<4:=⟨(d.wid/64%4).toNat,by omega,by omega⟩;obtain ⟨less,hless⟩:∃ l,l=widthL.getD (k*4+q) 0:=⟨_,rfl⟩;have hlo:d.lessOf i=less:=by unfold Dec.lessOf;rw [hless,hq,hkr];unfold Zz;congr 1;omega
  have hlr:=zCH (k*4+q) (by omega);rw [←hless] at hlr;obtain ⟨hlr0,hlr1⟩:=hlr;have hcl:i<d.st.length:=by omega
  have c9:=hd.state i hcl;have ct:=zNI hd.tab (k*4+q) (by omega);rw [←hless,←Nat.add_assoc] at ct;obtain ⟨c0,c1,-,-,c4,c5,-⟩:=hd.cellsAt;rw [hkr] at c9;rw [hov] at hmay;obtain ⟨L,hL⟩:∃ L,L=d.st.length:=⟨_,rfl⟩;obtain ⟨wi,hwi⟩:∃ l,l=d.wid:=⟨_,rfl⟩;obtain ⟨o,ho⟩:∃ l,l=d.off:=⟨_,rfl⟩;rw [←hL] at c1 hcl hc1;rw [←hwi] at c4 hw0 hw1 ho1 hq;rw [←ho] at c5 ho0 ho1;have hd1:Int.tdiv (2*(k:Int)+r) 2=k:=by rw [Int.tdiv_eq_ediv_of_nonneg (by omega)];omega
  have hd2:Int.tmod (2*(k:Int)+r) 2=r:=by rw [Int.tmod_eq_emod_of_nonneg (by omega)];omega
  have hd3:Int.tmod (Int.tdiv wi 64) 4=q:=by rw [Int.tdiv_eq_ediv_of_nonneg (by omega),Int.tmod_eq_emod_of_nonneg (by omega)];exact hq
  have hsb:sb≠b:=ZC hd.sts hd.cells (by decide);have htb:tb≠b:=ZC hd.tab hd.cells (by decide);have hts:tb≠sb:=ZC hd.tab hd.sts (by decide);have Hmay:=zh hmay;have HL:=zh hL;have Hwi:=zh hwi;have Ho:=zh ho;have Hkr:=zh hkr;have Hlo:=zh hlo;have Hcan:=zh hcan;clear hd hmay hL hwi ho hkr hlo hless hcan hst hok hov
  go_enter Tryz.func258,Tryz.ntmps258
  go_wp2_with fail
  refine Hmay.out.mono ?_;rintro r0 w0 ⟨rfl,rfl⟩;rw [show Zc (!false)=0 from rfl]
  by_cases hge:wi-less≤o
  ·obtain ⟨n1,hn1⟩:∃ n,n=less:=⟨_,rfl⟩;obtain ⟨n2,hn2⟩:∃ n,n=o-(wi-less):=⟨_,rfl⟩;have hsp:d.split ((i:Int)).toNat=(1-(r:Int),n1,n2):=by
    rw [Int.toNat_natCast,d.split_yes i (2*(k:Int)+r) less Hkr.out Hlo.out (by rw [←Hwi.out,←Ho.out];exact hge),hn1,hn2,←Hwi.out,←Ho.out]
    try rw [show (2*(k:Int)+r)%2=r by omega]
   have Hsp:=zh hsp;have hb1:(1-(r:Int)==(r:Int))=false:=by simp<;>omega
   have hb2:(1-(r:Int)==(2*(k:Int)+r)%2)=false:=by rw [show (2*(k:Int)+r)%2=r by omega];exact hb1
   have Hb2:=zh hb2;have hwr:IntKind.i64.wrap (1-(r:Int))=1-r:=by rw [IntKind.wrap_i64];omega
   clear hsp hb2;go_wp2
   go_quiet (fail)
   go_wp2
   go_quiet (fail)
   go_wp2_with fail
   generalize hww:World.drewN w _=wa;have ha:DecIs wa b tb sb d:=by rw [←hww];exact Hd.out.drewN _
   have hb:Only [b,sb] w wa:=by rw [←hww];exact (Only.refl _ _).drewN _
   rw [←hn2,←hn1];refine (zFH b tb sb d n1 n2 wa ha (by omega) (by omega) (by omega) (by omega) hs hpos).mono ?_;rintro r1 w1 ⟨rfl,g1,g2⟩;have Hon:=zh (hb.trans (g2.mono (by simp)));clear g2 ha hb hww c0 c1 c4 c5 c9 ct
   by_cases hh:d.has (zAh 8 n1)=true
   ·rw [hh] at g1 ⊢;rw [show zH7 true=0 from rfl];have hbin:=d.bin_yes i _ Hcan.out Hsp.out hh;rw [Int.toNat_natCast,Hkr.out,Hb2.out] at hbin;have Hbin:=zh hbin;have hnn:d.normalIf true n1 n2=d.normal n1 n2:=rfl;rw [hnn] at g1;have htq:=g1.tab;obtain ⟨e0,e1,-,-,-,-,-⟩:=g1.cellsAt;have e9:w1.cell? ⟨sb,i,none⟩=some (.int .i64 (d.st.getD i 0)):=g1.state i (by show i<d.st.length;rw [←HL.out];exact hcl);have ez:=ZB g1.sts i;have e1':w1.cell? ⟨b,1,none⟩=some (.slice (some ⟨sb,0,none⟩) L L):=by rw [e1,HL.out];rfl
    have G1:=zh g1;clear g1 e1 hbin hnn;go_wp2
    go_region_held3 (fun w'=>w'.cell? ⟨b,0,none⟩=some (.pointer (some ⟨tb,0,none⟩))∧w'.cell? ⟨b,1,none⟩=some (.slice (some ⟨sb,0,none⟩) L L)) (first|exact ⟨e0,e1'⟩|go_keep|assumption)
     (first|(go_at_call 239;refine (zEb tb (2*(k:Int)+r) false w1.drew htq (by omega) (by omega)).mono ?_;rintro r2 w2 ⟨rfl,rfl⟩))
    have h3:DecIs (w1.setCell ⟨sb,i,none⟩ (.int .i64 (zo (2*(k:Int)+r) false))).drew b tb sb { d.normal n1 n2 with st:=d.st.set i (zo (2*(k:Int)+r) false) }:=(G1.out.setState i _).drew;have h4:Only [b,sb] w (w1.setCell ⟨sb,i,none⟩ (.int .i64 (zo (2*(k:Int)+r) false))).drew:=(Hon.out.setCell (.inl (by simp)) _).drew;have H3:=zh h3;have H4:=zh h4;clear h3 h4;go_wp2;go_ret2;rw [Hbin.out];exact ⟨rfl,H3.out,H4.out⟩
   ·have hh2:d.has (zAh 8 n1)=false:=by simpa using hh
    rw [hh2] at g1 ⊢;rw [show zH7 false=500 from rfl];have Hbin:=zh (d.bin_end i _ Hcan.out Hsp.out hh2);have G1:=zh g1;clear g1;go_wp2;go_ret2;rw [Hbin.out];exact ⟨rfl,G1.out,Hon.out⟩
  ·obtain ⟨n1,hn1⟩:∃ n,n=wi-less:=⟨_,rfl⟩;obtain ⟨n2,hn2⟩:∃ n,n=o:=⟨_,rfl⟩;have hsp:d.split ((i:Int)).toNat=((r:Int),n1,n2):=by
    rw [Int.toNat_natCast,d.split_no i (2*(k:Int)+r) less Hkr.out Hlo.out (by rw [←Hwi.out,←Ho.out];exact hge),hn1,hn2,←Hwi.out,←Ho.out]
    try rw [show (2*(k:Int)+r)%2=r by omega]
   have Hsp:=zh hsp;have hb1:((r:Int)==(r:Int))=true:=by simp<;>omega
   have hb2:((r:Int)==(2*(k:Int)+r)%2)=true:=by rw [show (2*(k:Int)+r)%2=r by omega];exact hb1
   have Hb2:=zh hb2;have hwr:IntKind.i64.wrap (1-(r:Int))=1-r:=by rw [IntKind.wrap_i64];omega
   clear hsp hb2;go_wp2
   go_quiet (fail)
   go_wp2
   go_quiet (fail)
   go_wp2_with fail
   generalize hww:World.drewN w _=wa;have ha:DecIs wa b tb sb d:=by rw [←hww];exact Hd.out.drewN _
   have hb:Only [b,sb] w wa:=by rw [←hww];exact (Only.refl _ _).drewN _
   rw [←hn2,←hn1];refine (zFH b tb sb d n1 n2 wa ha (by omega) (by omega) (by omega) (by omega) hs hpos).mono ?_;rintro r1 w1 ⟨rfl,g1,g2⟩;have Hon:=zh (hb.trans (g2.mono (by simp)));clear g2 ha hb hww c0 c1 c4 c5 c9 ct
   by_cases hh:d.has (zAh 8 n1)=true
   ·rw [hh] at g1 ⊢;rw [show zH7 true=0 from rfl];have hbin:=d.bin_yes i _ Hcan.out Hsp.out hh;rw [Int.toNat_natCast,Hkr.out,Hb2.out] at hbin;have Hbin:=zh hbin;have hnn:d.normalIf true n1 n2=d.normal n1 n2:=rfl;rw [hnn] at g1;have htq:=g1.tab;obtain ⟨e0,e1,-,-,-,-,-⟩:=g1.cellsAt;have e9:w1.cell? ⟨sb,i,none⟩=some (.int .i64 (d.st.getD i 0)):=g1.state i (by show i<d.st.length;rw [←HL.out];exact hcl);have ez:=ZB g1.sts i;have e1':w1.cell? ⟨b,1,none⟩=some (.slice (some ⟨sb,0,none⟩) L L):=by rw [e1,HL.out];rfl
    have G1:=zh g1;clear g1 e1 hbin hnn;go_wp2
    go_region_held3 (fun w'=>w'.cell? ⟨b,0,none⟩=some (.pointer (some ⟨tb,0,none⟩))∧w'.cell? ⟨b,1,none⟩=some (.slice (some ⟨sb,0,none⟩) L L)) (first|exact ⟨e0,e1'⟩|go_keep|assumption)
     (first|(go_at_call 239;refine (zEb tb (2*(k:Int)+r) true w1.drew htq (by omega) (by omega)).mono ?_;rintro r2 w2 ⟨rfl,rfl⟩))
    have h3:DecIs (w1.setCell ⟨sb,i,none⟩ (.int .i64 (zo (2*(k:Int)+r) true))).drew b tb sb { d.normal n1 n2 with st:=d.st.set i (zo (2*(k:Int)+r) true) }:=(G1.out.setState i _).drew;have h4:Only [b,sb] w (w1.setCell ⟨sb,i,none⟩ (.int .i64 (zo (2*(k:Int)+r) true))).drew:=(Hon.out.setCell (.inl (by simp)) _).drew;have H3:=zh h3;have H4:=zh h4;clear h3 h4;go_wp2;go_ret2;rw [Hbin.out];exact ⟨rfl,H3.out,H4.out⟩
   ·have hh2:d.has (zAh 8 n1)=false:=by simpa using hh
    rw [hh2] at g1 ⊢;rw [show zH7 false=500 from rfl];have Hbin:=zh (d.bin_end i _ Hcan.out Hsp.out hh2);have G1:=zh g1;clear g1;go_wp2;go_ret2;rw [Hbin.out];exact ⟨rfl,G1.out,Hon.out⟩
 ·have hcf:d.can c=false:=by simpa using hcan
  rw [d.bin_no c hcf]
  cases hov:d.over
  ·rw [hov] at hmay;obtain ⟨-,c1,-,-,-,-,-⟩:=hd.cellsAt;have hc:¬ (0≤c∧c<d.st.length):=by
    unfold Dec.can at hcf;rw [hov] at hcf
    simpa using hcf
   obtain ⟨L,hL⟩:∃ L,L=d.st.length:=⟨_,rfl⟩;rw [←hL] at c1 hc;have Hmay:=zh hmay;clear hd hmay hL hcan hcf hok
   go_enter Tryz.func258,Tryz.ntmps258
   go_wp2_with fail
   refine Hmay.out.mono ?_;rintro r0 w0 ⟨rfl,rfl⟩;rw [show Zc (!false)=0 from rfl]
   by_cases h0:c<0
   ·go_wp2<;>go_ret2<;>exact ⟨rfl,Hd.out,Only.refl _ _⟩
   ·have h1:(L:Int)≤c:=by omega
    go_wp2<;>go_ret2<;>exact ⟨rfl,Hd.out,Only.refl _ _⟩
  ·rw [hov] at hmay;have Hmay:=zh hmay;clear hd hmay hcan hcf hok
   go_enter Tryz.func258,Tryz.ntmps258
   go_wp2_with fail
   refine Hmay.out.mono ?_;rintro r0 w0 ⟨rfl,rfl⟩;rw [show Zc (!true)=501 from rfl];go_wp2;go_ret2;exact ⟨rfl,Hd.out,Only.refl _ _⟩
structure EncAt (w0 w:World) (b tb sb:Nat) (ov:Value) (e:Enc):Prop where
 is:EncIs w b tb sb ov e
 good:e.Good
 on:Only [] w0 w
 hb:w0.heap.size≤b
 htb:w0.heap.size≤tb
 hsb:w0.heap.size≤sb
 hov:∀ g,ov.ownBlock=some g→w0.heap.size≤g
theorem EncAt.go {w0 w w':World} {b tb sb:Nat} {ov ov':Value} {e e':Enc} (h:EncAt w0 w b tb sb ov e) (hi:EncIs w' b tb sb ov' e') (hg:EncGo w w' b sb ov ov') (hgd:e'.Good):EncAt w0 w' b tb sb ov' e':=by
 refine ⟨hi,hgd,h.on.trans' hg.only ?_,h.hb,h.htb,h.hsb,fun g hgv=>?_⟩
 ·intro i hi;simp only [List.mem_cons,Option.mem_toList] at hi
  rcases hi with rfl|rfl|hi
  ·exact .inr h.hb
  ·exact .inr h.hsb
  ·exact .inr (h.hov i hi)
 ·rcases hg.new g hgv with h1|h1
  ·exact h.hov g h1
  ·exact Nat.le_trans h.on.size h1
theorem EncAt.only {w0 w w':World} {b tb sb:Nat} {ov:Value} {e:Enc} {S:List Nat} (h:EncAt w0 w b tb sb ov e) (ho:Only S w w') (hS:∀ i∈S,w0.heap.size≤i) (h1:b∉S) (h2:tb∉S) (h3:sb∉S) (h4:∀ g,ov.ownBlock=some g→g∉S):EncAt w0 w' b tb sb ov e:=by
 refine ⟨⟨ho.heap h.is.cells h1,h.is.tab.only ho h2,ho.heap h.is.sts h3,zF h.is.out fun g hg=>?_⟩,h.good,h.on.trans' ho (fun i hi=> .inr (hS i hi)),h.hb,h.htb,h.hsb,h.hov⟩;obtain ⟨cur,hc⟩:=zD h.is.out hg;exact ho.block g (lt_of_block hc) (h4 g hg)
theorem EncAt.drewN {w0 w:World} {b tb sb:Nat} {ov:Value} {e:Enc} (h:EncAt w0 w b tb sb ov e) (n:Nat):EncAt w0 (w.drewN n) b tb sb ov e:=⟨h.is.drewN n,h.good,h.on.drewN n,h.hb,h.htb,h.hsb,h.hov⟩
theorem EncAt.drew {w0 w:World} {b tb sb:Nat} {ov:Value} {e:Enc} (h:EncAt w0 w b tb sb ov e):EncAt w0 w.drew b tb sb ov e:=⟨h.is.drew,h.good,h.on.drew,h.hb,h.htb,h.hsb,h.hov⟩
theorem EncAt.bin {w0 w:World} {b tb sb:Nat} {ov:Value} {e:Enc} (h:EncAt w0 w b tb sb ov e) (c x:Int) (hn:e.cost<700000000):
 Calls Tryz.prog 229 #[.pointer (some ⟨b,0,none⟩),.int .i64 c,.int .i64 x] w fun r w'=>r=.returned (.int .i64 (Zc (e.canBin c x)))∧∃ ov',EncAt w0 w' b tb sb ov' (e.bin c x)∧EncGo w w' b sb ov ov':=by
 refine (zMz b tb sb ov e c x w h.is h.good hn).mono ?_;rintro r w' ⟨rfl,ov',h1,h2⟩;exact ⟨rfl,ov',h.go h1 h2 (e.good_bin c x h.good).1,h2⟩
theorem EncAt.bypass {w0 w:World} {b tb sb:Nat} {ov:Value} {e:Enc} (h:EncAt w0 w b tb sb ov e) (x:Int) (hn:e.cost<700000000):
 Calls Tryz.prog 222 #[.pointer (some ⟨b,0,none⟩),.int .i64 x] w fun r w'=>r=.returned (.int .i64 (Zc (e.may x)))∧∃ ov',EncAt w0 w' b tb sb ov' (e.bypass x)∧EncGo w w' b sb ov ov':=by
 refine (zJG b tb sb ov e x w h.is h.good hn).mono ?_;rintro r w' ⟨rfl,ov',h1,h2⟩;exact ⟨rfl,ov',h.go h1 h2 (e.good_bypass x h.good).1,h2⟩
theorem EncAt.term {w0 w:World} {b tb sb:Nat} {ov:Value} {e:Enc} (h:EncAt w0 w b tb sb ov e) (x:Int) (hn:e.cost<700000000):
 Calls Tryz.prog 38 #[.pointer (some ⟨b,0,none⟩),.int .i64 x] w fun r w'=>r=.returned (.int .i64 (Zc (e.may x)))∧∃ ov',EncAt w0 w' b tb sb ov' (e.term x)∧EncGo w w' b sb ov ov':=by
 refine (zLc b tb sb ov e x w h.is h.good hn).mono ?_;rintro r w' ⟨rfl,ov',h1,h2⟩;exact ⟨rfl,ov',h.go h1 h2 (e.good_term x h.good).1,h2⟩
theorem EncAt.bytes {w0 w:World} {b tb sb:Nat} {ov:Value} {e:Enc} (h:EncAt w0 w b tb sb ov e):
 Calls Tryz.prog 44 #[.pointer (some ⟨b,0,none⟩)] w fun r w'=>r=.returned (.string (strOfNums (ZP e.bits)))∧w=w':=
 zHN b tb sb ov e w h.is
structure DecAt (w0 w:World) (b tb sb:Nat) (d:Dec):Prop where
 is:DecIs w b tb sb d
 ok:d.Ok
 on:Only [] w0 w
 hb:w0.heap.size≤b
 htb:w0.heap.size≤tb
 hsb:w0.heap.size≤sb
theorem DecAt.go {w0 w w':World} {b tb sb:Nat} {d d':Dec} (h:DecAt w0 w b tb sb d) (hi:DecIs w' b tb sb d') (hg:Only [b,sb] w w') (hok:d'.Ok):DecAt w0 w' b tb sb d':=by
 refine ⟨hi,hok,h.on.trans' hg ?_,h.hb,h.htb,h.hsb⟩;intro i hi;simp only [List.mem_cons,List.not_mem_nil,or_false] at hi
 rcases hi with rfl|rfl
 ·exact .inr h.hb
 ·exact .inr h.hsb
theorem DecAt.only {w0 w w':World} {b tb sb:Nat} {d:Dec} {S:List Nat} (h:DecAt w0 w b tb sb d) (ho:Only S w w') (hS:∀ i∈S,w0.heap.size≤i) (h1:b∉S) (h2:tb∉S) (h3:sb∉S):DecAt w0 w' b tb sb d:=
 ⟨h.is.only ho h1 h2 h3,h.ok,h.on.trans' ho (fun i hi=> .inr (hS i hi)),h.hb,h.htb,h.hsb⟩
theorem DecAt.drewN {w0 w:World} {b tb sb:Nat} {d:Dec} (h:DecAt w0 w b tb sb d) (n:Nat):DecAt w0 (w.drewN n) b tb sb d:=⟨h.is.drewN n,h.ok,h.on.drewN n,h.hb,h.htb,h.hsb⟩
theorem DecAt.bin {w0 w:World} {b tb sb:Nat} {d:Dec} (h:DecAt w0 w b tb sb d) (c:Int) (hs:d.s.size≤140737488355328):
 Calls Tryz.prog 258 #[.pointer (some ⟨b,0,none⟩),.int .i64 c] w fun r w'=>r=.returned (.tuple #[.int .i64 (d.bin c).1,.int .i64 (d.bin c).2.1])∧DecAt w0 w' b tb sb (d.bin c).2.2∧Only [b,sb] w w':=by
 refine (zLf b tb sb d c w h.is h.ok hs).mono ?_;rintro r w' ⟨rfl,h1,h2⟩;exact ⟨rfl,h.go h1 h2 (d.ok_bin c h.ok),h2⟩
theorem DecAt.bypass {w0 w:World} {b tb sb:Nat} {d:Dec} (h:DecAt w0 w b tb sb d) (hs:d.s.size≤140737488355328):
 Calls Tryz.prog 247 #[.pointer (some ⟨b,0,none⟩)] w fun r w'=>r=.returned (.tuple #[.int .i64 d.bypass.1,.int .i64 d.bypass.2.1])∧DecAt w0 w' b tb sb d.bypass.2.2∧Only [b,sb] w w':=by
 refine (zH6 b tb sb d w h.is h.ok hs).mono ?_;rintro r w' ⟨rfl,h1,h2⟩;exact ⟨rfl,h.go h1 (h2.mono (by simp)) (d.ok_bypass h.ok),h2.mono (by simp)⟩
theorem DecAt.term {w0 w:World} {b tb sb:Nat} {d:Dec} (h:DecAt w0 w b tb sb d) (hs:d.s.size≤140737488355328):
 Calls Tryz.prog 47 #[.pointer (some ⟨b,0,none⟩)] w fun r w'=>r=.returned (.tuple #[.int .i64 d.term.1,.int .i64 d.term.2.1])∧DecAt w0 w' b tb sb d.term.2.2∧Only [b,sb] w w':=by
 refine (zKd b tb sb d w h.is h.ok hs).mono ?_;rintro r w' ⟨rfl,h1,h2⟩;exact ⟨rfl,h.go h1 (h2.mono (by simp)) (d.ok_term h.ok),h2.mono (by simp)⟩
theorem DecAt.states {w0 w:World} {b tb sb:Nat} {d:Dec} (h:DecAt w0 w b tb sb d) (hl:d.st.length<17592186044415):
 Calls Tryz.prog 268 #[.pointer (some ⟨b,0,none⟩)] w fun r w'=>∃ v,r=.returned v∧w'.ownsRow w.heap.size 3 1 v d.st.length (d.st.map (Value.int .i64))∧DecAt w0 w' b tb sb d∧Only [] w w':=by
 refine (zH5 b tb sb d w h.is hl).mono ?_;rintro r w' ⟨v,rfl,h1,h2⟩;exact ⟨v,rfl,h1,h.only h2 (by simp) (by simp) (by simp) (by simp),h2⟩
theorem EncAt.low {w0 w:World} {b tb sb:Nat} {ov:Value} {e:Enc} (h:EncAt w0 w b tb sb ov e):b<w.heap.size∧tb<w.heap.size∧sb<w.heap.size∧∀ g,ov.ownBlock=some g→g<w.heap.size:=
 ⟨lt_of_block h.is.cells,lt_of_block h.is.tab,lt_of_block h.is.sts,fun _ hg=>by obtain ⟨c,hc⟩:=zD h.is.out hg;exact lt_of_block hc⟩
theorem EncAt.past {w0 w w':World} {b tb sb M:Nat} {ov:Value} {e:Enc} {S:List Nat} (h:EncAt w0 w b tb sb ov e) (hl:b<M∧tb<M∧sb<M∧∀ g,ov.ownBlock=some g→g<M) (hM:w0.heap.size≤M)
 (ho:Only S w w') (hS:∀ i∈S,M≤i):EncAt w0 w' b tb sb ov e:=
 h.only ho (fun i hi=>Nat.le_trans hM (hS i hi)) (fun hi=>by have:=hS _ hi;omega) (fun hi=>by have:=hS _ hi;omega) (fun hi=>by have:=hS _ hi;omega) (fun g hg hi=>by have:=hS _ hi;have:=hl.2.2.2 g hg;omega)
theorem zL7 (b tb sb:Nat) (d:Dec) (w:World) (hd:DecIs w b tb sb d):
 Calls Tryz.prog 48 #[.pointer (some ⟨b,0,none⟩)] w fun r w'=>r=.returned (.int .i64 d.pos)∧w=w':=by
 obtain ⟨-,-,-,c3,-,-,-⟩:=hd.cellsAt;clear hd
 go_enter Tryz.func48,Tryz.ntmps48
 go_wp2;go_ret;exact ⟨rfl,rfl⟩
theorem DecAt.at {w0 w:World} {b tb sb:Nat} {d:Dec} (h:DecAt w0 w b tb sb d):
 Calls Tryz.prog 48 #[.pointer (some ⟨b,0,none⟩)] w fun r w'=>r=.returned (.int .i64 d.pos)∧w=w':=
 zL7 b tb sb d w h.is
end Go.Proofs.YtcppbdlmcbjmeaaGreatDoor
