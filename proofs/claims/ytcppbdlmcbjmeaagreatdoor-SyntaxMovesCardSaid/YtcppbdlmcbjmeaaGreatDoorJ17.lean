/- Lemmas that the law needs, part 17. -/
import Derived.Test.YtcppbdlmcbjmeaaGreatDoorJ09
import Derived.StillTailTactics
set_option maxHeartbeats 6400000
set_option maxRecDepth 100000
namespace Go.Proofs.YtcppbdlmcbjmeaaGreatDoor
open Go.RowKit
def zH9 (ds:List DoneP) (f wide n:Nat) (md:Nat→Int) (b:Nat):Int:=if bX b=0 then zCw ds (Zb f wide n) (zHY 3 (bY b)) else md (zHY (bX b-1) (bY b))
def zMT (ds:List DoneP) (wide n:Nat) (md:Nat→Int) (b:Nat):Int:=if bY b=0 then zCw ds (Zy wide n) (zHY (bX b) 3) else md (zHY (bX b) (bY b-1))
def zAt (ds:List DoneP) (f wide n:Nat) (md:Nat→Int) (b:Nat):Int:=zCs (zH9 ds f wide n md b) (zMT ds wide n md b)
def zAe (u own:Int):List Ask:=.elem 2 0 (Zk (own==u)) 1::(if own=u then [] else [.elem 3 0 (own-Zk (decide (u<own))) 7])
def zT (g:Nat→List Ask):Nat→List Ask
 |0=>[]
 |j+1=>g (16-(j+1))++zT g j
theorem zLu:∀ b,b<16→bX b≠0→zHY (bX b-1) (bY b)<b:=by decide
theorem zNC:∀ b,b<16→bY b≠0→zHY (bX b) (bY b-1)<b:=by decide
variable {c:Cod} {F0 F:List Nat} {w0 w:World} {kb sb mb:Nat} {S X:Nat→Value} {r:List Ask}
theorem Scene.st {n f wide:Nat} {D:List Value} (h:Scene c F0 w0 w kb sb mb S X n D F r) (h0:S 0=.int .i64 f) (h21:S 21=.int .i64 wide) (bf:f≤1000000) (bw:1≤wide∧wide≤1000000) (bn:n≤1000000):StAt w sb S f wide n D:=
 ⟨h.s,h0,h21,h.a,bf,bw,bn⟩
def zA6 (X:Nat→Value) (md:Nat→Int) (k:Nat):Nat→Value:=fun j=>if 2≤j∧j<2+k then .int .i64 (md (j-2)) else X j
theorem zJE (X:Nat→Value) (md:Nat→Int):zA6 X md 0=X:=by funext j;unfold zA6;rw [if_neg (by omega)]
theorem zDt (X:Nat→Value) (md:Nat→Int) (k:Nat):upd (zA6 X md k) (2+k) (.int .i64 (md k))=zA6 X md (k+1):=by
 funext j
 unfold upd zA6
 by_cases h:j=2+k
 ·subst h;rw [if_pos rfl,if_pos ⟨by omega,by omega⟩,show 2+k-2=k by omega]
 ·rw [if_neg h]
  by_cases h2:2≤j∧j<2+k
  ·rw [if_pos h2,if_pos ⟨h2.1,by omega⟩]
  ·rw [if_neg h2,if_neg (by omega)]
theorem zDs (X:Nat→Value) (md:Nat→Int) (k i:Nat) (h:i<k):zA6 X md k (2+i)=.int .i64 (md i):=by unfold zA6;rw [if_pos ⟨by omega,by omega⟩,show 2+i-2=i by omega]
theorem zE6 (X:Nat→Value) (md:Nat→Int) (k i:Nat) (h:k≤i):zA6 X md k (2+i)=X (2+i):=by unfold zA6;rw [if_neg (by omega)]
theorem zMR (f:Nat→Value) (i:Nat) (a b:Value):upd (upd f i a) i b=upd f i b:=by funext j;unfold upd;split<;>rfl
theorem zK3 {f wide n:Nat} {ds:List DoneP} {md own:Nat→Int} (hc:c.Ok) (h:Scene c F0 w0 w kb sb mb S X n (zG ds) F (zT (fun b=>zAe (zAt ds f wide n md b) (md b)) 16++r))
 (h0:S 0=.int .i64 f) (h21:S 21=.int .i64 wide) (bf:f≤1000000) (bw:1≤wide∧wide≤1000000) (bn:n≤1000000)
 (hm:∀ i,i<16→0≤md i∧md i≤8) (hu:∀ i,i<16→0≤zAt ds f wide n md i∧zAt ds f wide n md i≤8) (hX:∀ i,i<16→X (2+i)=.int .i64 (own i)∧0≤own i∧own i≤8) (hw:c.wr=true→∀ i,i<16→own i=md i):
 Calls Tryz.prog 72 #[.pointer (some ⟨kb,0,none⟩)] w fun e w'=>e=.returned (.tuple #[])∧∃ F',Scene c F0 w0 w' kb sb mb S (zA6 X md 16) n (zG ds) F' r:=by
 have k2:=h.k2;have mE:=hc.mE;have eE:=hc.eE;have H:=zh h;have HC:=zh hc;have H0:=zh h0;have H21:=zh h21;have Hm:=zh hm;have Hu:=zh hu;have HX:=zh hX;have Hw:=zh hw;have Hb:=zh (And.intro bf (And.intro bw bn));clear h hc h0 h21 hm hu hX hw bf bw bn
 go_enter Tryz.func72,Tryz.ntmps72
 go_wp2
 go_loopw [12] (fun i wr=>∃ (k:Nat) (F1:List Nat),k≤16∧i=.int .i64 k∧Scene c F0 w0 wr kb sb mb S (zA6 X md k) n (zG ds) F1 (zT (fun b=>zAe (zAt ds f wide n md b) (md b)) (16-k)++r)) (fun i _=>16-(intOf i).toNat)
 case atStart=>exact ⟨0,F,Nat.zero_le _,rfl,by rw [zJE];exact H.out⟩
 case round=>
  obtain ⟨k,F1,hk,rfl,hs⟩:=hrel
  by_cases hlt:k<16
  ·have hb:=zNv k;have hb2:=zNu k hlt;obtain ⟨u,hu⟩:∃ u,u=zAt ds f wide n md k:=⟨_,rfl⟩;have hub:=Hu.out k hlt;rw [←hu] at hub;have hsk:Scene c F0 w0 wr kb sb mb S (zA6 X md k) n (zG ds) F1 (zAe u (md k)++(zT (fun b=>zAe (zAt ds f wide n md b) (md b)) (16-(k+1))++r)):=by
    have e:zT (fun b=>zAe (zAt ds f wide n md b) (md b)) (16-k)=zAe u (md k)++zT (fun b=>zAe (zAt ds f wide n md b) (md b)) (16-(k+1)):=by
     rw [show 16-k=(16-(k+1))+1 by omega]
     show (fun b=>zAe (zAt ds f wide n md b) (md b)) (16-((16-(k+1))+1))++_=_
     rw [show 16-((16-(k+1))+1)=k by omega,hu]
    rw [e,List.append_assoc] at hs;exact hs
   have hst:=hsk.st H0.out H21.out Hb.out.1 Hb.out.2.1 Hb.out.2.2;have hl:∀ wz j,wz=wr.drewN j→Calls Tryz.prog 111 #[.pointer (some ⟨sb,0,none⟩),.pointer (some ⟨mb,0,none⟩),.int .i64 ((bX k:Int)-1),.int .i64 (bY k)] wz fun e w'=>e=.returned (.int .i64 (zH9 ds f wide n md k))∧∃ j,w'=wz.drewN j:=by
    rintro wz j rfl;unfold zH9
    by_cases hx:bX k=0
    ·rw [if_pos hx];exact zFt (hst.drewN j) (Zb f wide n) _ _ 3 (bY k) _ (.inl ⟨by rw [hx];rfl,rfl,rfl,hb2,rfl⟩)
    ·rw [if_neg hx];obtain ⟨x1,hx1⟩:∃ x1,bX k=x1+1:=⟨bX k-1,by omega⟩;have hlt2:=zLu k hlt hx;rw [show ((bX k:Int)-1)=(x1:Int) by omega];rw [show bX k-1=x1 by omega] at hlt2 ⊢;exact zFu (hst.drewN j) hsk.m x1 (bY k) (by omega) hb2 (zDs X md k _ hlt2)
   have ht:∀ wz j,wz=wr.drewN j→Calls Tryz.prog 111 #[.pointer (some ⟨sb,0,none⟩),.pointer (some ⟨mb,0,none⟩),.int .i64 (bX k),.int .i64 ((bY k:Int)-1)] wz fun e w'=>e=.returned (.int .i64 (zMT ds wide n md k))∧∃ j,w'=wz.drewN j:=by
    rintro wz j rfl;unfold zMT
    by_cases hx:bY k=0
    ·rw [if_pos hx];exact zFt (hst.drewN j) (Zy wide n) _ _ (bX k) 3 _ (.inr ⟨by rw [hx];rfl,rfl,rfl,hb,rfl⟩)
    ·rw [if_neg hx];obtain ⟨x1,hx1⟩:∃ x1,bY k=x1+1:=⟨bY k-1,by omega⟩;have hlt2:=zNC k hlt hx;rw [show ((bY k:Int)-1)=(x1:Int) by omega];rw [show bY k-1=x1 by omega] at hlt2 ⊢;exact zFu (hst.drewN j) hsk.m (bX k) x1 hb (by omega) (zDs X md k _ hlt2)
   have hus:=fun w=>zK9 (zH9 ds f wide n md k) (zMT ds wide n md k) w
   have eu:zCs (zH9 ds f wide n md k) (zMT ds wide n md k)=u:=hu.symm;simp only [eu] at hus;obtain ⟨L,hL⟩:∃ L,L=zH9 ds f wide n md k:=⟨_,rfl⟩;obtain ⟨Tp,hT⟩:∃ Tp,Tp=zMT ds wide n md k:=⟨_,rfl⟩;rw [←hL,←hT] at hus;rw [←hL] at hl;rw [←hT] at ht;obtain ⟨hown,ho0,ho8⟩:=HX.out k hlt;obtain ⟨o,ho⟩:∃ o,o=own k:=⟨_,rfl⟩;obtain ⟨m,hmm⟩:∃ m,m=md k:=⟨_,rfl⟩;have hmb:=Hm.out k hlt;rw [←ho] at hown ho0 ho8;rw [←hmm] at hmb hsk;have hwo:c.wr=true→o=m:=fun h=>by rw [ho,hmm];exact Hw.out h k hlt
   have k0:=hsk.k0;have k1:=hsk.k1;have ck:wr.cell? ⟨mb,2+k,none⟩=some (.int .i64 o):=by rw [hsk.m.cell (2+k) (by omega),zE6 X md k k (Nat.le_refl _),hown]
   have hBk:=fun w=>zLB k hlt w
   obtain ⟨x,hx⟩:∃ x,x=bX k:=⟨_,rfl⟩;obtain ⟨y,hy⟩:∃ y,y=bY k:=⟨_,rfl⟩;simp only [←hx,←hy] at hl ht hBk hb hb2;have qx:IntKind.i64.wrap ((x:Int)-1)=(x:Int)-1:=sw _ (by omega) (by omega);have qy:IntKind.i64.wrap ((y:Int)-1)=(y:Int)-1:=sw _ (by omega) (by omega);have HL:=zh hl;have HT:=zh ht;have HU:=zh hus;have HB:=zh hBk;have Hs:=zh hsk;have Hwo:=zh hwo;have Hmm:=zh hmm;have HO:=zh hown;clear hs hst hl ht hus eu hL hT hown ho hmm hwo hBk hx hy hsk hu
   go_wp2_with fail
   refine (HB.out _).mono ?_;rintro e w1 ⟨rfl,rfl⟩
   go_wp2_with fail
   go_quiet (first
    |(go_at_call 111;with_reducible exact Calls.quiet_of (HL.out _ _ rfl))
    |(go_at_call 111;with_reducible exact Calls.quiet_of (HT.out _ _ rfl))
    |(go_at_call 110;exact Calls.quiet_of_same ((HU.out _).mono fun _ _ ⟨h1,h2⟩=>⟨h1,h2.symm⟩)))
   rename_i nq
   go_wp2_with fail
   have hz:=Hs.out.drewN HC.out nq;clear Hs k0 k1 ck HL HT HU;generalize wr.drewN nq=wz at*;have k1:=hz.k1;have k2:=hz.k2;have Hz:=zh hz;clear hz
   go_still_tail 10,(by kernel_rfl)
   still_call ((zB1 _ _).mono fun _ _ h=>⟨h.1,h.2.symm⟩)
   repeat still_step
   refine wpStill_nil ?_
   change wpList _ _ _ _ _ wz.drew
   have hz:=Hz.out.drew HC.out;generalize wz.drew=wy at*
   go_wp2_with fail
   obtain ⟨rest,hrest⟩:∃ rest,rest=zT (fun b=>zAe (zAt ds f wide n md b) (md b)) (16-(k+1))++r:=⟨_,rfl⟩;have hz2:Scene c F0 w0 wy kb sb mb S (zA6 X md k) n (zG ds) F1 (.elem 2 0 (Zk (m==u)) 1::((if m=u then [] else [.elem 3 0 (m-Zk (decide (u<m))) 7])++rest)):=by rw [hrest];exact hz
   have Hrest:=zh hrest;clear hz hrest Hz;refine (hz2.elem HC.out _ (fun h=>by rw [Hwo.out h])).mono ?_;rintro e wa ⟨rfl,F2,g1⟩;have hki:(k:Int)<16:=by omega
   have ck:wa.cell? ⟨mb,2+k,none⟩=some (.int .i64 o):=by rw [g1.m.cell (2+k) (by omega),zE6 X md k k (Nat.le_refl _),HO.out]
   have zk:=g1.m.free (2+k)
   by_cases hmu:m=u
   ·subst hmu;rw [if_pos rfl] at g1;have g2:Scene c F0 w0 wa kb sb mb S (zA6 X md k) n (zG ds) F2 rest:=g1;have G2:=zh g2;clear g1 g2 hz2;rw [show Zk (m==m)=1 by simp [Zk]];go_wp2;refine ⟨⟨k+1,F2,by omega,by simp,?_⟩,?_⟩
    ·have g3:=G2.out.setM HC.out (2+k) (.int .i64 m);rw [show zA6 X md (k+1)=upd (zA6 X md k) (2+k) (.int .i64 m) by rw [Hmm.out,zDt],←Hrest.out];exact g3
    ·simp [intOf];omega
   ·have hbeq:(m==u)=false:=by simpa using hmu
    rw [if_neg hmu] at g1;have g2:Scene c F0 w0 wa kb sb mb S (zA6 X md k) n (zG ds) F2 (.elem 3 0 (m-Zk (decide (u<m))) 7::rest):=g1;have k1a:=g2.k1;have G2:=zh g2;clear g1 g2 hz2;rw [hbeq,show Zk false=0 from rfl]
    go_wp2_with fail
    have qf:IntKind.i64.wrap (o-Zk (decide (u<o)))=o-Zk (decide (u<o)):=by unfold Zk;split<;>exact sw _ (by omega) (by omega)
    refine zH (by kernel_rfl) (fun w'=>w'.cell? ⟨kb,1,none⟩=some (.iface c.T c.pv)) 18 ?_;have g4:=G2.out.drew HC.out;generalize wa.drew=wd at*;have hS0:(fun w'=>w'.cell? ⟨kb,1,none⟩=some (.iface c.T c.pv)) wd:=g4.k1;refine AnyL.tk 0 (h:=?_);refine AnyL.tk 1 (h:=?_);refine AnyL.tk 2 (h:=?_);refine AnyL.tk 3 (h:=?_);refine AnyL.tk 4 (h:=?_);refine AnyL.tk 5 (h:=?_);refine AnyL.tk 6 (h:=?_);refine AnyL.tk 7 (h:=?_);refine AnyL.tk 8 (h:=?_);refine AnyL.tk 9 (h:=?_);refine AnyL.tk 12 (h:=?_);refine AnyL.tk 13 (h:=?_);refine AnyL.tk 15 (h:=?_);refine AnyL.tk 16 (h:=?_);refine AnyL.on 10 (h:=fun K hK=>?_);go_simp;refine (zB1 _ _).mono ?_;rintro e w9 ⟨rfl,rfl⟩;refine hK _ _ (fun _=>hS0) (fun hKq=>?_);clear hK K hKq
    try simp only [zpt]
    refine AnyL.on 11 (h:=fun K hK=>?_);go_simp;refine hK _ _ (fun _=>hS0) (fun hKq=>?_);clear hK K hKq
    try simp only [zpt]
    refine AnyL.on 14 (h:=fun K hK=>?_);go_simp;refine (g4.elem HC.out _ (fun h=>by rw [Hwo.out h])).mono ?_;rintro e wb ⟨rfl,F3,g5⟩;have hS1:=g5.k1;have ckb:wb.cell? ⟨mb,2+k,none⟩=some (.int .i64 o):=by rw [g5.m.cell (2+k) (by omega),zE6 X md k k (Nat.le_refl _),HO.out]
    have zkb:=g5.m.free (2+k);have G5:=zh g5;clear g4 g5 ck zk k1a hS0;refine hK _ _ (fun _=>hS1) (fun hKq=>?_);clear hK K hKq
    try simp only [zpt]
    refine AnyL.on 17 (h:=fun K hK=>?_);go_simp;refine hK _ _ (fun _=>hS1) (fun hKq=>?_);clear hK K hKq
    try simp only [zpt]
    refine AnyL.on 18 (h:=fun K hK=>?_);go_simp;refine hK _ _ (fun h=>absurd rfl h) (fun hKq=>?_);clear hK K hKq
    try simp only [zpt]
    refine AnyL.dn (h:=?_);have g6:=G5.out.setM HC.out (2+k) (.int .i64 (m-Zk (decide (u<m))));clear G5 ckb zkb hS1 G2;generalize wb.setCell ⟨mb,2+k,none⟩ (.int .i64 (m-Zk (decide (u<m))))=wc at*;have ck:wc.cell? ⟨mb,2+k,none⟩=some (.int .i64 (m-Zk (decide (u<m)))):=by rw [g6.m.cell (2+k) (by omega),zL]
    have zk:=g6.m.free (2+k);have G6:=zh g6;clear g6
    by_cases hgt:u<m
    ·rw [show m-Zk (decide (u<m))=m-1 by rw [decide_eq_true hgt];rfl] at ck G6 ⊢;go_wp2
     go_region
     go_wp2;refine ⟨⟨k+1,F3,by omega,by simp,?_⟩,?_⟩
     ·have g7:=(G6.out.setM HC.out (2+k) (.int .i64 m)).drew HC.out;rw [zMR,show upd (zA6 X md k) (2+k) (.int .i64 m)=zA6 X md (k+1) by rw [Hmm.out,zDt],Hrest.out] at g7;exact g7
     ·simp [intOf];omega
    ·rw [show m-Zk (decide (u<m))=m by rw [decide_eq_false hgt];simp [Zk]] at ck G6 ⊢;go_wp2;refine ⟨⟨k+1,F3,by omega,by simp,?_⟩,?_⟩
     ·have g7:=G6.out;rw [show upd (zA6 X md k) (2+k) (.int .i64 m)=zA6 X md (k+1) by rw [Hmm.out,zDt],Hrest.out] at g7;exact g7
     ·simp [intOf];omega
  ·obtain rfl:k=16:=by omega
   have Hs:Hid (Scene c F0 w0 wr kb sb mb S (zA6 X md 16) n (zG ds) F1 r):=zh hs;clear hs;go_wp2;go_end0;exact ⟨rfl,F1,Hs.out⟩
noncomputable def zAu (T:Nat→Prop) (X:Nat→Value) (y:Nat→Int):Nat→Value:=open Classical in fun j=>if T j then .int .i64 (y j) else X j
theorem zAz {T:Nat→Prop} {X:Nat→Value} {y:Nat→Int} {j:Nat} (h:T j):zAu T X y j=.int .i64 (y j):=by unfold zAu;rw [if_pos h]
theorem zb {T:Nat→Prop} {X:Nat→Value} {y:Nat→Int} {j:Nat} (h:¬ T j):zAu T X y j=X j:=by unfold zAu;rw [if_neg h]
theorem zI {T U:Nat→Prop} (X:Nat→Value) (y:Nat→Int) (h:∀ j,T j↔U j):zAu T X y=zAu U X y:=by
 have:T=U:=funext fun j=>propext (h j)
 rw [this]
theorem zJ4 (X:Nat→Value) (y:Nat→Int):zAu (fun _=>False) X y=X:=by funext j;exact zb (fun h=>h)
theorem zGe (T:Nat→Prop) (X:Nat→Value) (y:Nat→Int) (i:Nat):upd (zAu T X y) i (.int .i64 (y i))=zAu (fun j=>T j∨j=i) X y:=by
 funext j
 unfold upd
 by_cases h:j=i
 ·subst h;rw [if_pos rfl,zAz (.inr rfl)]
 ·rw [if_neg h]
  by_cases hT:T j
  ·rw [zAz hT,zAz (.inl hT)]
  ·rw [zb hT,zb (fun e=>e.elim hT h)]
def zCH (y:Nat→Int) (off len:Nat):List Int:=(List.range len).map fun i=>y (off+i)
theorem zAI (y:Nat→Int) (off len:Nat):(zCH y off len).length=len:=by simp [zCH]
theorem zIF (y:Nat→Int) (off len i:Nat) (h:i<len):(zCH y off len).getD i 0=y (off+i):=by simp [zCH,List.getD,h]
theorem zJB (T:Nat→Prop) (X:Nat→Value) (y:Nat→Int) (off len:Nat):
 (fun j=>if off≤j∧j<off+(zCH y off len).length then Value.int .i64 ((zCH y off len).getD (j-off) 0) else zAu T X y j)=zAu (fun j=>T j∨(off≤j∧j<off+len)) X y:=by
 funext j
 rw [zAI]
 by_cases h:off≤j∧j<off+len
 ·rw [if_pos h,zAz (.inr h),zIF y off len _ (by omega),show off+(j-off)=j by omega]
 ·rw [if_neg h]
  by_cases hT:T j
  ·rw [zAz hT,zAz (.inl hT)]
  ·rw [zb hT,zb (fun e=>e.elim hT h)]
variable {c:Cod} {F0 F:List Nat} {w0 w:World} {kb sb mb n:Nat} {S X:Nat→Value} {D:List Value} {r:List Ask}
theorem Scene.coefs {T:Nat→Prop} {y:Nat→Int} {off len:Nat} {cat inc:Int} (h:Scene c F0 w0 w kb sb mb S (zAu T X y) n D F (.coefs (zCH y off len) cat inc::r)) (hc:c.Ok) (cap:Nat) (ho:48≤off∧off+len≤482) (hl:len≤cap)
 (hX:∀ j,48≤j→j<482→∃ n,X j=.int .i64 n) (hw:c.wr=true→∀ j,48≤j→j<482→X j=.int .i64 (y j)):
 Calls Tryz.prog c.fC #[c.pv,.slice (some ⟨mb,off,none⟩) len cap,.int .i64 cat,.int .i64 inc] w fun e w'=>e=.returned (.tuple #[])∧∃ F',Scene c F0 w0 w' kb sb mb S (zAu (fun j=>T j∨(off≤j∧j<off+len)) X y) n D F' r:=by
 have hco:=hc.coefs F r w (zCH y off len) cat inc mb off cap (zAu T X y) h.c h.m (by rw [zAI];exact ho.2) (by rw [zAI];exact hl) h.nm
  (fun i hi=>by
    rw [zAI] at hi
    by_cases hT:T (off+i)
    ·exact ⟨_,zAz hT⟩
    ·rw [zb hT];exact hX _ (by omega) (by omega))
  (fun hwr i hi=>by
    rw [zAI] at hi;rw [zIF y off len i hi]
    by_cases hT:T (off+i)
    ·exact zAz hT
    ·rw [zb hT];exact hw hwr _ (by omega) (by omega))
 rw [zJB,zAI] at hco;refine hco.mono ?_;rintro e w' ⟨rfl,F',h1,h2,h3,h4⟩;refine ⟨rfl,F',?_⟩;have hsz:=h.o.size;have hl0:=h.l;exact {
  k:=h.k.only h2.only (fun e=>by rcases List.mem_cons.1 e with e|e;·exact h.km e
                                 ·exact h.nk e)
  s:=h.s.only h2.only (fun e=>by rcases List.mem_cons.1 e with e|e;·exact h.sm e
                                 ·exact h.ns e)
  m:=h4
  a:=ZD h.a fun g hg2=>by
   obtain ⟨cur,hc⟩:=zD h.a hg2
   exact h2.only.block g (lt_of_block hc) (fun e=>by rcases List.mem_cons.1 e with e|e;·exact (h.ag hg2).2.2.1 e
                                                     ·exact h.na g hg2 e)
  c:=h1
  nk:=fun e=>(h2.new _ e).elim (fun e=>by rcases List.mem_cons.1 e with e|e;·exact h.km e
                                          ·exact h.nk e) (fun h2=>by omega)
  ns:=fun e=>(h2.new _ e).elim (fun e=>by rcases List.mem_cons.1 e with e|e;·exact h.sm e
                                          ·exact h.ns e) (fun h2=>by omega)
  nm:=h3
  na:=fun g hg2 e=>(h2.new _ e).elim (fun e=>by rcases List.mem_cons.1 e with e|e;·exact (h.ag hg2).2.2.1 e
                                                ·exact h.na g hg2 e) (fun h2=>by have:=(h.ag hg2).2.2.2;omega)
  o:=h.o.trans' h2.only (fun i hi=>by
   rcases List.mem_cons.1 hi with rfl|hi
   ·exact .inl (by simp)
   ·exact (h.n i hi).elim (fun h2=> .inl (by simp [h2])) .inr)
  n:=fun i hi=>(h2.new i hi).elim (fun hi2=>by
   rcases List.mem_cons.1 hi2 with rfl|hi2
   ·exact absurd hi h3
   ·exact h.n i hi2) (fun h2=> .inr (Nat.le_trans hsz h2))
  l:=h.l }
def Zm (kind:Int) (L:Nat) (inc:Int) (y:Nat→Int) (b:Nat):List Ask:=if L/2^(b/4)%2=0 then [] else if kind=1 then [.coefs (zCH y (50+16*b+1) 15) 1 inc] else [.coefs (zCH y (50+16*b) 16) 2 inc]
def zY (inc:Int) (y:Nat→Int):Nat→List Ask
 |0=>[]
 |j+1=> .coefs (zCH y (50+16*(24-(j+1))+1) 15) 3 inc::zY inc y j
def zAE (kind:Int) (L H:Nat) (d inc:Int) (y:Nat→Int):List Ask:=
 (if kind=1 then .elem 11 0 (Zk (decide (0<L))) 1 else .elem 11 0 L 15):: .elem 12 0 H 2::((if zAi kind (L+16*H)=true then [.elem 13 0 d 0] else [])++
  ((if kind=1 then [.coefs (zCH y 434 16) 0 inc] else [])++(zT (Zm kind L inc y) 16++((if 0<H then [.coefs (zCH y 450 4) 3 inc,.coefs (zCH y 466 4) 3 inc] else [])++(if H=2 then zY inc y 8 else [])))))
variable {c:Cod} {F0 F:List Nat} {w0 w:World} {kb sb mb n f wide:Nat} {S X:Nat→Value} {ds:List DoneP} {r:List Ask}
def zBg (ds:List DoneP) (o:Option Nat):Int:=match o with
 |none=>0
 |some k=>match ds[k]? with
  |none=>0
  |some d=>d.cbp
theorem zGf (X:Nat→Value) (y:Nat→Int) (i:Nat):upd X i (.int .i64 (y i))=zAu (fun j=>j=i) X y:=by
 have h:=zGe (fun _=>False) X y i;rw [zJ4] at h;rw [h];exact zI X y (fun j=>by simp)
theorem zGh (h:StAt w sb S f wide n (zG ds)) (hl:ds.length=n):(Zl S (Zb f wide n)=.pointer none∧zBg ds (Zb f wide n)=0)∨
 ∃ g k,Zl S (Zb f wide n)=.pointer (some ⟨g,k*46,none⟩)∧w.cell? ⟨g,k*46+1,none⟩=some (.int .i64 (zBg ds (Zb f wide n))):=by
 rcases ho:Zb f wide n with _|k
 ·exact .inl ⟨rfl,rfl⟩
 ·have hk:=zGi ho;obtain ⟨a,cap,hv,hg⟩:=h.slice;obtain ⟨g,rfl,hg2⟩:=hg (by omega);obtain ⟨d,hd⟩:∃ d,ds[k]? =some d:=⟨ds[k],List.getElem?_eq_getElem (by omega)⟩;refine .inr ⟨g,k,by simp [Zl,hg2],?_⟩;have:=h.cell hd (j:=1) (by decide) (zKk d) hg2;rw [this];simp [zBg,hd]
def zr (q j:Nat):Prop:=306≤j∧j<50+16*q∧(j-50)%16≠0
theorem Zo (j:Nat):¬ zr 16 j:=by unfold zr;omega
theorem zCX (q j:Nat) (hq:16≤q):zr (q+1) j↔zr q j∨(50+16*q+1≤j∧j<50+16*q+1+15):=by unfold zr;omega
theorem zFl (inc:Int) (y:Nat→Int) {q:Nat} (hk:q<24):zY inc y (24-q)=.coefs (zCH y (50+16*q+1) 15) 3 inc::zY inc y (24-(q+1)):=by
 rw [show 24-q=(24-(q+1))+1 by omega]
 show (Ask.coefs (zCH y (50+16*(24-((24-(q+1))+1))+1) 15) 3 inc::zY inc y (24-(q+1)))=_
 rw [show 24-((24-(q+1))+1)=q by omega]
def zAG (G:Nat) (inc:Int) (y:Nat→Int) (q:Nat):List Ask:=if G=2 then zY inc y (24-q) else []
theorem zCV (inc:Int) (y:Nat→Int) {G q:Nat} (hG:G=2) (hk:q<24):zAG G inc y q=.coefs (zCH y (50+16*q+1) 15) 3 inc::zAG G inc y (q+1):=by
 unfold zAG;rw [if_pos hG,if_pos hG,zFl inc y hk]
theorem Zv (inc:Int) (y:Nat→Int) {G q:Nat} (h:q=24∨G≠2):zAG G inc y q=[]:=by
 unfold zAG
 rcases h with rfl|h
 ·split<;>rfl
 ·rw [if_neg h]
def zAA (kind:Int) (L k j:Nat):Prop:=50≤j∧j<50+16*k∧L/2^((j-50)/16/4)%2=1∧(kind=1→(j-50)%16≠0)
theorem zDr (kind:Int) {L k:Nat} (h:L/2^(k/4)%2=0) (j:Nat):zAA kind L (k+1) j↔zAA kind L k j:=by
 unfold zAA
 by_cases hj:50+16*k≤j∧j<50+16*(k+1)
 ·rw [show (j-50)/16=k by omega,h];omega
 ·omega
theorem zKD {L k:Nat} (h:L/2^(k/4)%2=1) (j:Nat):zAA 1 L (k+1) j↔zAA 1 L k j∨(50+16*k+1≤j∧j<50+16*k+1+15):=by
 unfold zAA
 by_cases hj:50+16*k≤j∧j<50+16*(k+1)
 ·rw [show (j-50)/16=k by omega,h];omega
 ·omega
theorem zHL {kind:Int} (hk:kind≠1) {L k:Nat} (h:L/2^(k/4)%2=1) (j:Nat):zAA kind L (k+1) j↔zAA kind L k j∨(50+16*k≤j∧j<50+16*k+16):=by
 unfold zAA
 by_cases hj:50+16*k≤j∧j<50+16*(k+1)
 ·rw [show (j-50)/16=k by omega,h];omega
 ·omega
theorem zDq (kind:Int) (L j:Nat):¬ zAA kind L 0 j:=by unfold zAA;omega
theorem zAd (kind inc:Int) (y:Nat→Int) {L k:Nat} (hk:k<16) (h:L/2^(k/4)%2=0):zT (Zm kind L inc y) (16-k)=zT (Zm kind L inc y) (16-(k+1)):=by
 rw [show 16-k=(16-(k+1))+1 by omega]
 show Zm kind L inc y (16-((16-(k+1))+1))++_=_
 rw [show 16-((16-(k+1))+1)=k by omega];unfold Zm;rw [if_pos h]
 rfl
theorem zDp (inc:Int) (y:Nat→Int) {L k:Nat} (hk:k<16) (h:L/2^(k/4)%2=1):zT (Zm 1 L inc y) (16-k)=.coefs (zCH y (50+16*k+1) 15) 1 inc::zT (Zm 1 L inc y) (16-(k+1)):=by
 rw [show 16-k=(16-(k+1))+1 by omega]
 show Zm 1 L inc y (16-((16-(k+1))+1))++_=_
 rw [show 16-((16-(k+1))+1)=k by omega];unfold Zm;rw [if_neg (by omega),if_pos rfl]
 rfl
theorem zBt {kind:Int} (hn:kind≠1) (inc:Int) (y:Nat→Int) {L k:Nat} (hk:k<16) (h:L/2^(k/4)%2=1):zT (Zm kind L inc y) (16-k)=.coefs (zCH y (50+16*k) 16) 2 inc::zT (Zm kind L inc y) (16-(k+1)):=by
 rw [show 16-k=(16-(k+1))+1 by omega]
 show Zm kind L inc y (16-((16-(k+1))+1))++_=_
 rw [show 16-((16-(k+1))+1)=k by omega];unfold Zm;rw [if_neg (by omega),if_neg hn]
 rfl
def zAb (kind:Int) (L H:Nat) (j:Nat):Prop:=
 j=48∨(zAi kind (L+16*H)=true∧j=49)∨(kind=1∧434≤j∧j<450)∨(50≤j∧j<306∧L/2^((j-50)/16/4)%2=1∧(kind=1→(j-50)%16≠0))∨(0<H∧((450≤j∧j<454)∨(466≤j∧j<470)))∨(H=2∧306≤j∧j<434∧(j-50)%16≠0)
def rT7 (L G j:Nat):Prop:=(((j=48∨j=49)∨(434≤j∧j<434+16))∨zAA 1 L 16 j)∨(0<G∧((450≤j∧j<450+4)∨(466≤j∧j<466+4)))
theorem zMh {L G j:Nat} (hG:0<G):((((j=48∨j=49)∨(434≤j∧j<434+16))∨zAA 1 L 16 j)∨(450≤j∧j<450+4))∨(466≤j∧j<466+4)↔rT7 L G j:=
 ⟨fun h=>h.elim (fun h=>h.elim .inl (fun h=> .inr ⟨hG,.inl h⟩)) (fun h=> .inr ⟨hG,.inr h⟩),fun h=>h.elim (fun h=> .inl (.inl h)) (fun h=>h.2.elim (fun h=> .inl (.inr h)) .inr)⟩
theorem zMi {L G j:Nat} (hG:¬ 0<G):(((j=48∨j=49)∨(434≤j∧j<434+16))∨zAA 1 L 16 j)↔rT7 L G j:=
 ⟨.inl,fun h=>h.elim id (fun h=>absurd h.1 hG)⟩
theorem zCM {L G j k:Nat} (hk:(G=2∧k=24)∨(G≠2∧k=16)):rT7 L G j∨zr k j↔zAb 1 L G j:=by
 unfold rT7 zAb zr zAA
 constructor
 ·rintro ((((((h|h)|h)|h)|h))|h)
  ·exact .inl h
  ·exact .inr (.inl ⟨by simp [zAi],h⟩)
  ·exact .inr (.inr (.inl ⟨rfl,h⟩))
  ·exact .inr (.inr (.inr (.inl ⟨h.1,h.2.1,h.2.2.1,h.2.2.2⟩)))
  ·exact .inr (.inr (.inr (.inr (.inl h))))
  ·exact .inr (.inr (.inr (.inr (.inr ⟨by omega,h.1,by omega,h.2.2⟩))))
 ·rintro (h|h|h|h|h|h)
  ·exact .inl (.inl (.inl (.inl (.inl h))))
  ·exact .inl (.inl (.inl (.inl (.inr h.2))))
  ·exact .inl (.inl (.inl (.inr h.2)))
  ·exact .inl (.inl (.inr ⟨h.1,h.2.1,h.2.2.1,h.2.2.2⟩))
  ·exact .inl (.inr h)
  ·exact .inr ⟨h.2.1,by omega,h.2.2.2⟩
theorem zIp {p v d inc cb:Int} {L G:Nat} {y:Nat→Int} (hc:c.Ok) (h:Scene c F0 w0 w kb sb mb S X n (zG ds) F (zAE 1 L G d inc y++r))
 (h0:S 0=.int .i64 f) (h21:S 21=.int .i64 wide) (bf:f≤1000000) (bw:1≤wide∧wide≤1000000) (bn:n≤1000000) (h22:S 22=.int .i64 p)
 (hX0:X 0=.int .i64 1) (hX48:X 48=.int .i64 cb) (hX49:X 49=.int .i64 v) (hX:∀ j,48≤j→j<482→∃ n,X j=.int .i64 n) (_hcb:0≤cb∧cb≤47)
 (hw:c.wr=true→∀ j,48≤j→j<482→X j=.int .i64 (y j)) (hL:L=0∨L=15) (hH:G≤2) (hy48:y 48=L+16*G)
 (hinc:inc=Zk (decide (0<zBg ds (Zb f wide n)))) (hds:ds.length=n∧∀ d∈ds,0≤d.cbp∧d.cbp≤47) (hp:0≤p∧p≤51) (hd:-26≤d∧d≤25) (hq:y 49=(p+d+52)%52) (hv:0≤v∧v≤51):
 Calls Tryz.prog 73 #[.pointer (some ⟨kb,0,none⟩)] w fun e w'=>e=.returned (.tuple #[])∧∃ F',Scene c F0 w0 w' kb sb mb (upd S 22 (.int .i64 (y 49))) (zAu (zAb 1 L G) X y) n (zG ds) F' r:=by
 have k2:=h.k2;have m48:w.cell? ⟨mb,48,none⟩=some (.int .i64 cb):=by rw [h.m.cell 48 (by decide),hX48]
 have mE:=hc.mE;have eE:=hc.eE;have mC:=hc.mC;have eC:=hc.eC;have hcw:Hid (c.wr=true→cb=L+16*G):=zh fun hh=>by
  have:=hw hh 48 (by decide) (by decide);rw [hX48] at this;injection this with _ this
  rw [this,hy48]
 have HS:=zh h;have HC:=zh hc;have H0:=zh h0;have H21:=zh h21;have H22:=zh h22;have HX0:=zh hX0;have HX48:=zh hX48;have HX49:=zh hX49;have HX:=zh hX;have Hw:=zh hw;have Hy:=zh hy48;have Hinc:=zh hinc;have Hds:=zh hds;have Hq:=zh hq;have Hb:=zh (And.intro bf (And.intro bw bn));clear h hc h0 h21 h22 hX0 hX48 hX49 hX hw hy48 hinc hds hq bf bw bn
 go_enter Tryz.func73,Tryz.ntmps73
 go_wp2
 go_quiet (fail)
 rename_i nq;have hz:=HS.out.drewN HC.out nq;clear HS k2 m48;generalize w.drewN nq=wz at*;have k1:=hz.k1;have k2:=hz.k2;have m0:wz.cell? ⟨mb,0,none⟩=some (.int .i64 1):=by rw [hz.m.cell 0 (by decide),HX0.out]
 have Hz:=zh hz;clear hz
 go_wp2_with fail
 go_still_tail 9,(by kernel_rfl)
 still_call ((zB1 _ _).mono fun _ _ h=>⟨h.1,h.2.symm⟩)
 repeat still_step
 refine wpStill_nil ?_
 change wpList _ _ _ _ _ wz.drew
 obtain ⟨rest,hrest⟩:∃ rest,rest=zT (Zm 1 L inc y) 16++((if 0<G then [.coefs (zCH y 450 4) 3 inc,.coefs (zCH y 466 4) 3 inc] else [])++(if G=2 then zY inc y 8 else []))++r:=⟨_,rfl⟩;have hz:Scene c F0 w0 wz.drew kb sb mb S X n (zG ds) F (.elem 11 0 (Zk (decide (0<L))) 1:: .elem 12 0 G 2:: .elem 13 0 d 0:: .coefs (zCH y 434 16) 0 inc::rest):=by
  have:=Hz.out.drew HC.out;rw [hrest]
  simpa [zAE,zAi] using this
 clear k1 k2 m0 Hz;generalize wz.drew=wy at*;have k1:=hz.k1;have Hrest:=zh hrest;clear hrest
 go_wp2_with fail
 refine (hz.elem HC.out _ (fun h=>by
  have:=hcw.out h;exact congrArg Zk (decide_eq_decide.2 (by omega)))).mono ?_
 rintro e wa ⟨rfl,F1,g1⟩;have q15:IntKind.i64.wrap (15*Zk (decide (0<L)))=(L:Int):=by rcases hL with rfl|rfl<;>rfl
 have k1a:=g1.k1;have G1:=zh g1;clear hz g1 k1
 go_wp2_with fail
 refine (G1.out.elem HC.out _ (fun h=>by
  have:=hcw.out h;omega)).mono ?_
 rintro e wb ⟨rfl,F2,g2⟩;have q16:IntKind.i64.wrap (16*(G:Int))=16*(G:Int):=sw _ (by omega) (by omega);have qc:IntKind.i64.wrap ((L:Int)+16*(G:Int))=(L:Int)+16*(G:Int):=sw _ (by omega) (by omega);have zk:=g2.m.free 48;have ck:wb.cell? ⟨mb,48,none⟩=some (.int .i64 cb):=by rw [g2.m.cell 48 (by decide),HX48.out]
 have G2:=zh g2;clear g2 G1 k1a
 go_wp2_with fail
 have g3:=G2.out.setM HC.out 48 (.int .i64 (y 48));rw [zGf,Hy.out] at g3;clear G2 zk ck;generalize wb.setCell ⟨mb,48,none⟩ (.int .i64 ((L:Int)+16*(G:Int)))=wc at*;refine (zGO g3.m (k:=1) (cbp:=y 48) (by rw [zb (by decide),HX0.out]) (zAz rfl)).mono ?_;rintro e w9 ⟨rfl,rfl⟩;rw [show zAi 1 (y 48)=true by simp [zAi]]
 go_wp2_with fail
 refine (zNQ HC.out g3 H22.out (by rw [zb (by decide),HX49.out]) hp hd Hq.out hv (fun h=>by
  have:=Hw.out h 49 (by decide) (by decide);rw [HX49.out] at this;injection this)).mono ?_
 rintro e wd ⟨rfl,F3,g4⟩;rw [zGe] at g4;have h0':upd S 22 (.int .i64 (y 49)) 0=.int .i64 f:=by rw [zO _ _ (by decide),H0.out]
 have h21':upd S 22 (.int .i64 (y 49)) 21=.int .i64 wide:=by rw [zO _ _ (by decide),H21.out]
 clear g3;obtain ⟨S',hS'⟩:∃ S',S'=upd S 22 (.int .i64 (y 49)):=⟨_,rfl⟩;rw [←hS'] at g4 h0' h21';have HS':=zh hS';have hst:=g4.st h0' h21' Hb.out.1 Hb.out.2.1 Hb.out.2.2;have hnear:=zDe hst;have hl:=zGh hst Hds.out.1;have k0:=g4.k0;have k1:=g4.k1;have k2:=g4.k2;have m0:wd.cell? ⟨mb,0,none⟩=some (.int .i64 1):=by rw [g4.m.cell 0 (by decide),zb (by decide),HX0.out]
 have G4:=zh g4;have Hl:=zh hl;have Hn:=zh hnear;clear g4 hst hl hnear h0' h21' hS'
 go_wp2_with fail
 refine Hn.out.mono ?_;rintro e we ⟨rfl,nq,rfl⟩;have g5:=G4.out.drewN HC.out nq;have k1:=g5.k1;have k2:=g5.k2;have m0:(wd.drewN nq).cell? ⟨mb,0,none⟩=some (.int .i64 1):=m0;have G5:=zh g5;have hl:(Zl S' (Zb f wide n)=.pointer none∧zBg ds (Zb f wide n)=0)∨∃ g k,Zl S' (Zb f wide n)=.pointer (some ⟨g,k*46,none⟩)∧(wd.drewN nq).cell? ⟨g,k*46+1,none⟩=some (.int .i64 (zBg ds (Zb f wide n))):=Hl.out;clear g5 G4 Hl Hn k0;generalize wd.drewN nq=we at*;generalize Zl S' (Zy wide n)=p2 at*;have hi2:Zk (decide (0<zBg ds (Zb f wide n)))=inc:=Hinc.out.symm;clear Hinc;generalize zBg ds (Zb f wide n)=lc at*;generalize Zl S' (Zb f wide n)=p1 at*
 rcases hl with ⟨rfl,rfl⟩|⟨g,k,rfl,ck⟩
 all_goals
  go_wp2_with fail
  refine (zB1 _ _).mono ?_;rintro e w9 ⟨rfl,rfl⟩
  first|rw [hi2]|rw [show Zk false=inc from hi2]
  go_wp2_with fail
  go_still_tail 12,(by kernel_rfl)
  change wpList _ _ _ _ _ we.drew
  have g6:=G5.out.drew HC.out
  try clear ck
  clear G5 k1 k2 m0;generalize we.drew=wf at*
  go_wp2_with fail
  refine (g6.coefs HC.out 16 (off:=434) (len:=16) (by decide) (by decide) HX.out Hw.out).mono ?_;rintro e wg ⟨rfl,F4,g7⟩;have G7:=zh g7;clear g6 g7;obtain ⟨r2,hr2⟩:∃ r2,r2=((if 0<G then [.coefs (zCH y 450 4) 3 inc,.coefs (zCH y 466 4) 3 inc] else [])++(if G=2 then zY inc y 8 else []))++r:=⟨_,rfl⟩;have Hr2:=zh hr2;clear hr2;go_wp2
  go_loopw [99] (fun i wr=>∃ (k:Nat) (F1:List Nat),k≤16∧i=.int .i64 k∧Scene c F0 w0 wr kb sb mb S' (zAu (fun j=>((j=48∨j=49)∨(434≤j∧j<434+16))∨zAA 1 L k j) X y) n (zG ds) F1 (zT (Zm 1 L inc y) (16-k)++r2)) (fun i _=>16-(intOf i).toNat)
  case atStart=>
   refine ⟨0,F4,Nat.zero_le _,rfl,?_⟩;rw [zI (U:=fun j=>(j=48∨j=49)∨(434≤j∧j<434+16)) X y (fun j=>⟨fun h=>h.elim id (fun h=>absurd h (zDq 1 L j)),.inl⟩),Hr2.out];have:=G7.out;rw [Hrest.out] at this
   simpa [List.append_assoc] using this
  case round=>
   obtain ⟨k,F1,hk,rfl,hs⟩:=hrel
   by_cases hlt:k<16
   ·have hki:(k:Int)<16:=by omega
    have hki2:(k:Int)<24:=by omega
    have k1:=hs.k1;have m0:wr.cell? ⟨mb,0,none⟩=some (.int .i64 1):=by rw [hs.m.cell 0 (by decide),zb (by unfold zAA;omega),HX0.out]
    have Hs:=zh hs;clear hs;have hcast:(L:Int)/2^(k/4)%2=((L/2^(k/4)%2:Nat):Int):=by push_cast;rfl
    rcases Nat.mod_two_eq_zero_or_one (L/2^(k/4)) with hb|hb
    ·have hbi:((L:Int)/2^(k/4)%2==0)=true:=by rw [hcast,hb];rfl
     clear hcast;go_wp2;refine ⟨⟨k+1,F1,by omega,by simp,?_⟩,by simp [intOf];omega⟩;rw [zI (U:=fun j=>((j=48∨j=49)∨(434≤j∧j<434+16))∨zAA 1 L k j) X y (fun j=>by rw [zDr 1 hb])];have:=Hs.out;rw [zAd _ _ _ hlt hb] at this;exact this
    ·have hbi:((L:Int)/2^(k/4)%2==0)=false:=by rw [hcast,hb];rfl
     clear hcast
     go_wp2_with fail
     go_still_tail 13,(by kernel_rfl)
     change wpList _ _ _ _ _ wr.drew
     have hs:=Hs.out.drew HC.out;rw [zDp _ _ hlt hb] at hs;clear Hs k1 m0;generalize wr.drew=ws at*
     go_wp2_with fail
     rw [show 50+k*16+1=50+16*k+1 by omega];refine (hs.coefs HC.out 15 (off:=50+16*k+1) (len:=15) (by omega) (by decide) HX.out Hw.out).mono ?_;rintro e wt ⟨rfl,F2,g8⟩;clear hs;have G8:=zh g8;clear g8;go_wp2;refine ⟨⟨k+1,F2,by omega,by simp,?_⟩,by simp [intOf];omega⟩;rw [zI (U:=fun j=>(((j=48∨j=49)∨(434≤j∧j<434+16))∨zAA 1 L k j)∨(50+16*k+1≤j∧j<50+16*k+1+15)) X y (fun j=>by rw [zKD hb];exact (or_assoc).symm)];exact G8.out
   ·obtain rfl:k=16:=by omega
    have Hs:Hid (Scene c F0 w0 wr kb sb mb S' (zAu (fun j=>((j=48∨j=49)∨(434≤j∧j<434+16))∨zAA 1 L 16 j) X y) n (zG ds) F1 r2):=zh hs;clear hs;have k1:=Hs.out.k1
    by_cases hG:0<G
    ·have hGi:(0:Int)<G:=by omega
     go_wp2_with fail
     go_still_tail 12,(by kernel_rfl)
     change wpList _ _ _ _ _ wr.drew
     have hs:=Hs.out.drew HC.out;rw [Hr2.out,if_pos hG] at hs;clear Hs k1;generalize wr.drew=ws at*
     go_wp2_with fail
     refine (hs.coefs HC.out 16 (off:=450) (len:=4) (by omega) (by decide) HX.out Hw.out).mono ?_;rintro e wt ⟨rfl,F2,g8⟩;have k1:=g8.k1;have G8:=zh g8;clear hs g8
     go_wp2_with fail
     go_still_tail 12,(by kernel_rfl)
     change wpList _ _ _ _ _ wt.drew
     have hs:=G8.out.drew HC.out;clear G8 k1;generalize wt.drew=wu at*
     go_wp2_with fail
     refine (hs.coefs HC.out 16 (off:=466) (len:=4) (by omega) (by decide) HX.out Hw.out).mono ?_;rintro e wv ⟨rfl,F3,g9⟩;have k1:=g9.k1;have g9:Scene c F0 w0 wv kb sb mb S' (zAu (fun j=>((((j=48∨j=49)∨(434≤j∧j<434+16))∨zAA 1 L 16 j)∨(450≤j∧j<450+4))∨(466≤j∧j<466+4)) X y) n (zG ds) F3 ((if G=2 then zY inc y 8 else [])++r):=g9;clear hs;rw [zI (U:=rT7 L G) X y (fun j=>zMh hG)] at g9;have G9:Hid (Scene c F0 w0 wv kb sb mb S' (zAu (rT7 L G) X y) n (zG ds) F3 (zAG G inc y 16++r)):=zh g9;clear g9;obtain h2|h2:G=1∨G=2:=by omega
     ·rw [show (G:Int)=1 by omega];go_wp2
      go_loopw [9] (fun i wr=>∃ (F1:List Nat),i=.int .i64 16∧Scene c F0 w0 wr kb sb mb S' (zAu (rT7 L G) X y) n (zG ds) F1 r) (fun i _=>24-(intOf i).toNat)
      case atStart=>
       have:=G9.out;rw [Zv inc y (.inr (by omega))] at this;exact ⟨_,rfl,this⟩
      case round=>
       obtain ⟨F4,rfl,hs⟩:=hrel;have Hs:=zh hs;clear hs;go_wp2;go_end0;refine ⟨rfl,F4,?_⟩;have g:=Hs.out;rw [HS'.out,zI (U:=zAb 1 L G) X y (fun j=>⟨fun h=>(zCM (k:=16) (by omega)).1 (.inl h),fun h=>((zCM (k:=16) (by omega)).2 h).elim id (fun h=>absurd h (Zo j))⟩)] at g;exact g
     ·rw [show (G:Int)=2 by omega];go_wp2
      go_loopw [9] (fun i wr=>∃ (q:Nat) (F1:List Nat),16≤q∧q≤24∧i=.int .i64 q∧Scene c F0 w0 wr kb sb mb S' (zAu (fun j=>rT7 L G j∨zr q j) X y) n (zG ds) F1 (zAG G inc y q++r)) (fun i _=>24-(intOf i).toNat)
      case atStart=>
       refine ⟨16,F3,Nat.le_refl _,by decide,rfl,?_⟩;rw [zI (U:=rT7 L G) X y (fun j=>⟨fun h=>h.elim id (fun h=>absurd h (Zo j)),.inl⟩)];exact G9.out
      case round=>
       obtain ⟨q,F4,hq16,hk,rfl,hs⟩:=hrel
       by_cases hlt:q<24
       ·have hki:(q:Int)<24:=by omega
        rw [zCV inc y h2 hlt] at hs;have k1:=hs.k1;have Hs:=zh hs;clear hs
        go_wp2_with fail
        go_still_tail 13,(by kernel_rfl)
        change wpList _ _ _ _ _ wr.drew
        have hs:=Hs.out.drew HC.out;clear Hs k1;generalize wr.drew=ws at*
        go_wp2_with fail
        rw [show 50+q*16+1=50+16*q+1 by omega];refine (hs.coefs HC.out 15 (off:=50+16*q+1) (len:=15) (by omega) (by decide) HX.out Hw.out).mono ?_;rintro e wt ⟨rfl,F2,g8⟩;clear hs;rw [←zI (T:=fun j=>rT7 L G j∨zr (q+1) j) X y (fun j=>by rw [zCX q j hq16];exact (or_assoc).symm)] at g8;have G8:Hid (Scene c F0 w0 wt kb sb mb S' (zAu (fun j=>rT7 L G j∨zr (q+1) j) X y) n (zG ds) F2 (zAG G inc y (q+1)++r)):=zh g8;clear g8;go_wp2;exact ⟨⟨q+1,F2,by omega,by omega,by simp,G8.out⟩,by simp [intOf];omega⟩
       ·obtain rfl:q=24:=by omega
        rw [Zv inc y (.inl rfl)] at hs;have Hs:Hid (Scene c F0 w0 wr kb sb mb S' (zAu (fun j=>rT7 L G j∨zr 24 j) X y) n (zG ds) F4 r):=zh hs;clear hs;go_wp2;go_end0;refine ⟨rfl,F4,?_⟩;have g:=Hs.out;rw [HS'.out,zI (U:=zAb 1 L G) X y (fun j=>zCM (by omega))] at g;exact g
    ·have hGi:¬ (0:Int)<G:=by omega
     have g9:=Hs.out;rw [Hr2.out,if_neg hG,zI (U:=rT7 L G) X y (fun j=>zMi hG)] at g9;have G9:Hid (Scene c F0 w0 wr kb sb mb S' (zAu (rT7 L G) X y) n (zG ds) F1 (zAG G inc y 16++r)):=zh g9;clear Hs g9;rw [show (G:Int)=0 by omega];go_wp2
     go_loopw [9] (fun i wr=>∃ (F1:List Nat),i=.int .i64 16∧Scene c F0 w0 wr kb sb mb S' (zAu (rT7 L G) X y) n (zG ds) F1 r) (fun i _=>24-(intOf i).toNat)
     case atStart=>
      have:=G9.out;rw [Zv inc y (.inr (by omega))] at this;exact ⟨_,rfl,this⟩
     case round=>
      obtain ⟨F4,rfl,hs⟩:=hrel;have Hs:=zh hs;clear hs;go_wp2;go_end0;refine ⟨rfl,F4,?_⟩;have g:=Hs.out;rw [HS'.out,zI (U:=zAb 1 L G) X y (fun j=>⟨fun h=>(zCM (k:=16) (by omega)).1 (.inl h),fun h=>((zCM (k:=16) (by omega)).2 h).elim id (fun h=>absurd h (Zo j))⟩)] at g;exact g
variable {c:Cod} {F0 F:List Nat} {w0 w:World} {kb sb mb n f wide:Nat} {S X:Nat→Value} {ds:List DoneP} {r:List Ask}
def zEZ (L G j:Nat):Prop:=j=48∨(0<L+16*G∧j=49)
def zD9 (kind:Int) (L G j:Nat):Prop:=(zEZ L G j∨zAA kind L 16 j)∨(0<G∧((450≤j∧j<450+4)∨(466≤j∧j<466+4)))
theorem zIP {kind:Int} {L G j:Nat} (hG:0<G):((zEZ L G j∨zAA kind L 16 j)∨(450≤j∧j<450+4))∨(466≤j∧j<466+4)↔zD9 kind L G j:=
 ⟨fun h=>h.elim (fun h=>h.elim .inl (fun h=> .inr ⟨hG,.inl h⟩)) (fun h=> .inr ⟨hG,.inr h⟩),fun h=>h.elim (fun h=> .inl (.inl h)) (fun h=>h.2.elim (fun h=> .inl (.inr h)) .inr)⟩
theorem zIQ {kind:Int} {L G j:Nat} (hG:¬ 0<G):(zEZ L G j∨zAA kind L 16 j)↔zD9 kind L G j:=
 ⟨.inl,fun h=>h.elim id (fun h=>absurd h.1 hG)⟩
theorem zBG {kind:Int} {L G:Nat} (hne:kind≠1):zAi kind (L+16*G)=true↔0<L+16*G:=by
 simp [zAi,hne];omega
theorem zAN {kind:Int} (hne:kind≠1) {L G j k:Nat} (hk:(G=2∧k=24)∨(G≠2∧k=16)):zD9 kind L G j∨zr k j↔zAb kind L G j:=by
 have ht:=zBG (L:=L) (G:=G) hne;unfold zD9 zEZ zAb zr zAA
 constructor
 ·rintro ((((h|h)|h)|h)|h)
  ·exact .inl h
  ·exact .inr (.inl ⟨ht.2 h.1,h.2⟩)
  ·exact .inr (.inr (.inr (.inl ⟨h.1,h.2.1,h.2.2.1,h.2.2.2⟩)))
  ·exact .inr (.inr (.inr (.inr (.inl h))))
  ·exact .inr (.inr (.inr (.inr (.inr ⟨by omega,h.1,by omega,h.2.2⟩))))
 ·rintro (h|h|h|h|h|h)
  ·exact .inl (.inl (.inl (.inl h)))
  ·exact .inl (.inl (.inl (.inr ⟨ht.1 h.1,h.2⟩)))
  ·exact absurd h.1 hne
  ·exact .inl (.inl (.inr ⟨h.1,h.2.1,h.2.2.1,h.2.2.2⟩))
  ·exact .inl (.inr h)
  ·exact .inr ⟨h.2.1,by omega,h.2.2.2⟩
theorem zGw {kind p v d inc cb:Int} {L G:Nat} {y:Nat→Int} (hc:c.Ok) (h:Scene c F0 w0 w kb sb mb S X n (zG ds) F (zAE kind L G d inc y++r))
 (h0:S 0=.int .i64 f) (h21:S 21=.int .i64 wide) (bf:f≤1000000) (bw:1≤wide∧wide≤1000000) (bn:n≤1000000) (h22:S 22=.int .i64 p)
 (hX0:X 0=.int .i64 kind) (hX48:X 48=.int .i64 cb) (hX49:X 49=.int .i64 v) (hX:∀ j,48≤j→j<482→∃ n,X j=.int .i64 n) (_hcb:0≤cb∧cb≤47)
 (hw:c.wr=true→∀ j,48≤j→j<482→X j=.int .i64 (y j)) (hne:kind≠1) (hL:L≤15) (hT:0<L+16*G) (hH:G≤2) (hy48:y 48=L+16*G)
 (hinc:inc=Zk (decide (0<zBg ds (Zb f wide n)))) (hds:ds.length=n∧∀ d∈ds,0≤d.cbp∧d.cbp≤47) (hp:0≤p∧p≤51) (hd:-26≤d∧d≤25) (hq:y 49=(p+d+52)%52) (hv:0≤v∧v≤51):
 Calls Tryz.prog 73 #[.pointer (some ⟨kb,0,none⟩)] w fun e w'=>e=.returned (.tuple #[])∧∃ F',Scene c F0 w0 w' kb sb mb (upd S 22 (.int .i64 (y 49))) (zAu (zAb kind L G) X y) n (zG ds) F' r:=by
 have k2:=h.k2;have m48:w.cell? ⟨mb,48,none⟩=some (.int .i64 cb):=by rw [h.m.cell 48 (by decide),hX48]
 have mE:=hc.mE;have eE:=hc.eE;have mC:=hc.mC;have eC:=hc.eC;have hcw:Hid (c.wr=true→cb=L+16*G):=zh fun hh=>by
  have:=hw hh 48 (by decide) (by decide);rw [hX48] at this;injection this with _ this
  rw [this,hy48]
 have HS:=zh h;have HC:=zh hc;have H0:=zh h0;have H21:=zh h21;have H22:=zh h22;have HX0:=zh hX0;have HX48:=zh hX48;have HX49:=zh hX49;have HX:=zh hX;have Hw:=zh hw;have Hy:=zh hy48;have Hinc:=zh hinc;have Hds:=zh hds;have Hq:=zh hq;have Hb:=zh (And.intro bf (And.intro bw bn));clear h hc h0 h21 h22 hX0 hX48 hX49 hX hw hy48 hinc hds hq bf bw bn
 go_enter Tryz.func73,Tryz.ntmps73
 go_wp2
 go_quiet (fail)
 rename_i nq;have hz:=HS.out.drewN HC.out nq;clear HS k2 m48;generalize w.drewN nq=wz at*;have k1:=hz.k1;have k2:=hz.k2;have m0:wz.cell? ⟨mb,0,none⟩=some (.int .i64 kind):=by rw [hz.m.cell 0 (by decide),HX0.out]
 have Hz:=zh hz;clear hz;have hkb:(kind==1)=false:=by simpa using hne
 obtain ⟨rest,hrest⟩:∃ rest,rest=zT (Zm kind L inc y) 16++((if 0<G then [.coefs (zCH y 450 4) 3 inc,.coefs (zCH y 466 4) 3 inc] else [])++(if G=2 then zY inc y 8 else []))++r:=⟨_,rfl⟩;have hz:Scene c F0 w0 wz kb sb mb S X n (zG ds) F (.elem 11 0 L 15:: .elem 12 0 G 2:: .elem 13 0 d 0::rest):=by
  have:=Hz.out;rw [hrest];have ht:=zBG (L:=L) (G:=G) hne;rw [zAE,if_pos (ht.2 hT),if_neg hne,if_neg hne] at this
  simpa using this
 have Hrest:=zh hrest;clear hrest Hz
 go_wp2_with fail
 refine (hz.elem HC.out _ (fun h=>by
  have:=hcw.out h;omega)).mono ?_
 rintro e wa ⟨rfl,F1,g1⟩;have k1a:=g1.k1;have G1:=zh g1;clear hz g1 k1 k2 m0
 go_wp2_with fail
 refine (G1.out.elem HC.out _ (fun h=>by
  have:=hcw.out h;omega)).mono ?_
 rintro e wb ⟨rfl,F2,g2⟩;have q16:IntKind.i64.wrap (16*(G:Int))=16*(G:Int):=sw _ (by omega) (by omega);have qc:IntKind.i64.wrap ((L:Int)+16*(G:Int))=(L:Int)+16*(G:Int):=sw _ (by omega) (by omega);have zk:=g2.m.free 48;have ck:wb.cell? ⟨mb,48,none⟩=some (.int .i64 cb):=by rw [g2.m.cell 48 (by decide),HX48.out]
 have G2:=zh g2;clear g2 G1 k1a
 go_wp2_with fail
 have g3:=G2.out.setM HC.out 48 (.int .i64 (y 48));rw [zGf,Hy.out] at g3;clear G2 zk ck;generalize wb.setCell ⟨mb,48,none⟩ (.int .i64 ((L:Int)+16*(G:Int)))=wc at*;refine (zGO g3.m (k:=kind) (cbp:=y 48) (by rw [zb (by decide),HX0.out]) (zAz rfl)).mono ?_;rintro e w9 ⟨rfl,rfl⟩;rw [show zAi kind (y 48)=true by rw [Hy.out];exact (zBG hne).2 hT]
 go_wp2_with fail
 refine (zNQ HC.out g3 H22.out (by rw [zb (by decide),HX49.out]) hp hd Hq.out hv (fun h=>by
  have:=Hw.out h 49 (by decide) (by decide);rw [HX49.out] at this;injection this)).mono ?_
 rintro e wd ⟨rfl,F3,g4⟩;rw [zGe,zI (U:=zEZ L G) X y (fun j=>by unfold zEZ;simp only [hT,true_and])] at g4;have h0':upd S 22 (.int .i64 (y 49)) 0=.int .i64 f:=by rw [zO _ _ (by decide),H0.out]
 have h21':upd S 22 (.int .i64 (y 49)) 21=.int .i64 wide:=by rw [zO _ _ (by decide),H21.out]
 clear g3;obtain ⟨S',hS'⟩:∃ S',S'=upd S 22 (.int .i64 (y 49)):=⟨_,rfl⟩;rw [←hS'] at g4 h0' h21';have HS':=zh hS';have hst:=g4.st h0' h21' Hb.out.1 Hb.out.2.1 Hb.out.2.2;have hnear:=zDe hst;have hl:=zGh hst Hds.out.1;have k0:=g4.k0;have k1:=g4.k1;have k2:=g4.k2;have m0:wd.cell? ⟨mb,0,none⟩=some (.int .i64 kind):=by rw [g4.m.cell 0 (by decide),zb (by unfold zEZ;omega),HX0.out]
 have G4:=zh g4;have Hl:=zh hl;have Hn:=zh hnear;clear g4 hst hl hnear h0' h21' hS'
 go_wp2_with fail
 refine Hn.out.mono ?_;rintro e we ⟨rfl,nq,rfl⟩;have g5:=G4.out.drewN HC.out nq;have k1:=g5.k1;have k2:=g5.k2;have m0:(wd.drewN nq).cell? ⟨mb,0,none⟩=some (.int .i64 kind):=m0;have G5:=zh g5;have hl:(Zl S' (Zb f wide n)=.pointer none∧zBg ds (Zb f wide n)=0)∨∃ g k,Zl S' (Zb f wide n)=.pointer (some ⟨g,k*46,none⟩)∧(wd.drewN nq).cell? ⟨g,k*46+1,none⟩=some (.int .i64 (zBg ds (Zb f wide n))):=Hl.out;clear g5 G4 Hl Hn k0;generalize wd.drewN nq=we at*;generalize Zl S' (Zy wide n)=p2 at*;have hi2:Zk (decide (0<zBg ds (Zb f wide n)))=inc:=Hinc.out.symm;clear Hinc;generalize zBg ds (Zb f wide n)=lc at*;generalize Zl S' (Zb f wide n)=p1 at*
 rcases hl with ⟨rfl,rfl⟩|⟨g,k,rfl,ck⟩
 all_goals
  go_wp2_with fail
  refine (zB1 _ _).mono ?_;rintro e w9 ⟨rfl,rfl⟩
  first|rw [hi2]|rw [show Zk false=inc from hi2]
  try clear ck
  have G7:=G5;clear G5 k1 k2;obtain ⟨r2,hr2⟩:∃ r2,r2=((if 0<G then [.coefs (zCH y 450 4) 3 inc,.coefs (zCH y 466 4) 3 inc] else [])++(if G=2 then zY inc y 8 else []))++r:=⟨_,rfl⟩;have Hr2:=zh hr2;clear hr2;go_wp2
  go_loopw [99] (fun i wr=>∃ (k:Nat) (F1:List Nat),k≤16∧i=.int .i64 k∧Scene c F0 w0 wr kb sb mb S' (zAu (fun j=>zEZ L G j∨zAA kind L k j) X y) n (zG ds) F1 (zT (Zm kind L inc y) (16-k)++r2)) (fun i _=>16-(intOf i).toNat)
  case atStart=>
   refine ⟨0,F3,Nat.zero_le _,rfl,?_⟩;rw [zI (U:=fun j=>zEZ L G j) X y (fun j=>⟨fun h=>h.elim id (fun h=>absurd h (zDq kind L j)),.inl⟩),Hr2.out];have:=G7.out;rw [Hrest.out] at this
   simpa [List.append_assoc] using this
  case round=>
   obtain ⟨k,F1,hk,rfl,hs⟩:=hrel
   by_cases hlt:k<16
   ·have hki:(k:Int)<16:=by omega
    have hki2:(k:Int)<24:=by omega
    have k1:=hs.k1;have m0:wr.cell? ⟨mb,0,none⟩=some (.int .i64 kind):=by rw [hs.m.cell 0 (by decide),zb (by unfold zEZ zAA;omega),HX0.out]
    have Hs:=zh hs;clear hs;have hcast:(L:Int)/2^(k/4)%2=((L/2^(k/4)%2:Nat):Int):=by push_cast;rfl
    rcases Nat.mod_two_eq_zero_or_one (L/2^(k/4)) with hb|hb
    ·have hbi:((L:Int)/2^(k/4)%2==0)=true:=by rw [hcast,hb];rfl
     clear hcast;go_wp2;refine ⟨⟨k+1,F1,by omega,by simp,?_⟩,by simp [intOf];omega⟩;rw [zI (U:=fun j=>zEZ L G j∨zAA kind L k j) X y (fun j=>by rw [zDr kind hb])];have:=Hs.out;rw [zAd _ _ _ hlt hb] at this;exact this
    ·have hbi:((L:Int)/2^(k/4)%2==0)=false:=by rw [hcast,hb];rfl
     clear hcast
     go_wp2_with fail
     go_still_tail 13,(by kernel_rfl)
     change wpList _ _ _ _ _ wr.drew
     have hs:=Hs.out.drew HC.out;rw [zBt hne _ _ hlt hb] at hs;clear Hs k1 m0;generalize wr.drew=ws at*
     go_wp2_with fail
     rw [show 50+k*16=50+16*k by omega];refine (hs.coefs HC.out 16 (off:=50+16*k) (len:=16) (by omega) (by decide) HX.out Hw.out).mono ?_;rintro e wt ⟨rfl,F2,g8⟩;clear hs;have G8:=zh g8;clear g8;go_wp2;refine ⟨⟨k+1,F2,by omega,by simp,?_⟩,by simp [intOf];omega⟩;rw [zI (U:=fun j=>(zEZ L G j∨zAA kind L k j)∨(50+16*k≤j∧j<50+16*k+16)) X y (fun j=>by rw [zHL hne hb];exact (or_assoc).symm)];exact G8.out
   ·obtain rfl:k=16:=by omega
    have Hs:Hid (Scene c F0 w0 wr kb sb mb S' (zAu (fun j=>zEZ L G j∨zAA kind L 16 j) X y) n (zG ds) F1 r2):=zh hs;clear hs;have k1:=Hs.out.k1
    by_cases hG:0<G
    ·have hGi:(0:Int)<G:=by omega
     go_wp2_with fail
     go_still_tail 12,(by kernel_rfl)
     change wpList _ _ _ _ _ wr.drew
     have hs:=Hs.out.drew HC.out;rw [Hr2.out,if_pos hG] at hs;clear Hs k1;generalize wr.drew=ws at*
     go_wp2_with fail
     refine (hs.coefs HC.out 16 (off:=450) (len:=4) (by omega) (by decide) HX.out Hw.out).mono ?_;rintro e wt ⟨rfl,F2,g8⟩;have k1:=g8.k1;have G8:=zh g8;clear hs g8
     go_wp2_with fail
     go_still_tail 12,(by kernel_rfl)
     change wpList _ _ _ _ _ wt.drew
     have hs:=G8.out.drew HC.out;clear G8 k1;generalize wt.drew=wu at*
     go_wp2_with fail
     refine (hs.coefs HC.out 16 (off:=466) (len:=4) (by omega) (by decide) HX.out Hw.out).mono ?_;rintro e wv ⟨rfl,F3,g9⟩;have k1:=g9.k1;have g9:Scene c F0 w0 wv kb sb mb S' (zAu (fun j=>((zEZ L G j∨zAA kind L 16 j)∨(450≤j∧j<450+4))∨(466≤j∧j<466+4)) X y) n (zG ds) F3 ((if G=2 then zY inc y 8 else [])++r):=g9;clear hs;rw [zI (U:=zD9 kind L G) X y (fun j=>zIP hG)] at g9;have G9:Hid (Scene c F0 w0 wv kb sb mb S' (zAu (zD9 kind L G) X y) n (zG ds) F3 (zAG G inc y 16++r)):=zh g9;clear g9;obtain h2|h2:G=1∨G=2:=by omega
     ·rw [show (G:Int)=1 by omega];go_wp2
      go_loopw [9] (fun i wr=>∃ (F1:List Nat),i=.int .i64 16∧Scene c F0 w0 wr kb sb mb S' (zAu (zD9 kind L G) X y) n (zG ds) F1 r) (fun i _=>24-(intOf i).toNat)
      case atStart=>
       have:=G9.out;rw [Zv inc y (.inr (by omega))] at this;exact ⟨_,rfl,this⟩
      case round=>
       obtain ⟨F4,rfl,hs⟩:=hrel;have Hs:=zh hs;clear hs;go_wp2;go_end0;refine ⟨rfl,F4,?_⟩;have g:=Hs.out;rw [HS'.out,zI (U:=zAb kind L G) X y (fun j=>⟨fun h=>(zAN hne (k:=16) (by omega)).1 (.inl h),fun h=>((zAN hne (k:=16) (by omega)).2 h).elim id (fun h=>absurd h (Zo j))⟩)] at g;exact g
     ·rw [show (G:Int)=2 by omega];go_wp2
      go_loopw [9] (fun i wr=>∃ (q:Nat) (F1:List Nat),16≤q∧q≤24∧i=.int .i64 q∧Scene c F0 w0 wr kb sb mb S' (zAu (fun j=>zD9 kind L G j∨zr q j) X y) n (zG ds) F1 (zAG G inc y q++r)) (fun i _=>24-(intOf i).toNat)
      case atStart=>
       refine ⟨16,F3,Nat.le_refl _,by decide,rfl,?_⟩;rw [zI (U:=zD9 kind L G) X y (fun j=>⟨fun h=>h.elim id (fun h=>absurd h (Zo j)),.inl⟩)];exact G9.out
      case round=>
       obtain ⟨q,F4,hq16,hk,rfl,hs⟩:=hrel
       by_cases hlt:q<24
       ·have hki:(q:Int)<24:=by omega
        rw [zCV inc y h2 hlt] at hs;have k1:=hs.k1;have Hs:=zh hs;clear hs
        go_wp2_with fail
        go_still_tail 13,(by kernel_rfl)
        change wpList _ _ _ _ _ wr.drew
        have hs:=Hs.out.drew HC.out;clear Hs k1;generalize wr.drew=ws at*
        go_wp2_with fail
        rw [show 50+q*16+1=50+16*q+1 by omega];refine (hs.coefs HC.out 15 (off:=50+16*q+1) (len:=15) (by omega) (by decide) HX.out Hw.out).mono ?_;rintro e wt ⟨rfl,F2,g8⟩;clear hs;rw [←zI (T:=fun j=>zD9 kind L G j∨zr (q+1) j) X y (fun j=>by rw [zCX q j hq16];exact (or_assoc).symm)] at g8;have G8:Hid (Scene c F0 w0 wt kb sb mb S' (zAu (fun j=>zD9 kind L G j∨zr (q+1) j) X y) n (zG ds) F2 (zAG G inc y (q+1)++r)):=zh g8;clear g8;go_wp2;exact ⟨⟨q+1,F2,by omega,by omega,by simp,G8.out⟩,by simp [intOf];omega⟩
       ·obtain rfl:q=24:=by omega
        rw [Zv inc y (.inl rfl)] at hs;have Hs:Hid (Scene c F0 w0 wr kb sb mb S' (zAu (fun j=>zD9 kind L G j∨zr 24 j) X y) n (zG ds) F4 r):=zh hs;clear hs;go_wp2;go_end0;refine ⟨rfl,F4,?_⟩;have g:=Hs.out;rw [HS'.out,zI (U:=zAb kind L G) X y (fun j=>zAN hne (by omega))] at g;exact g
    ·have hGi:¬ (0:Int)<G:=by omega
     have g9:=Hs.out;rw [Hr2.out,if_neg hG,zI (U:=zD9 kind L G) X y (fun j=>zIQ hG)] at g9;have G9:Hid (Scene c F0 w0 wr kb sb mb S' (zAu (zD9 kind L G) X y) n (zG ds) F1 (zAG G inc y 16++r)):=zh g9;clear Hs g9;rw [show (G:Int)=0 by omega];go_wp2
     go_loopw [9] (fun i wr=>∃ (F1:List Nat),i=.int .i64 16∧Scene c F0 w0 wr kb sb mb S' (zAu (zD9 kind L G) X y) n (zG ds) F1 r) (fun i _=>24-(intOf i).toNat)
     case atStart=>
      have:=G9.out;rw [Zv inc y (.inr (by omega))] at this;exact ⟨_,rfl,this⟩
     case round=>
      obtain ⟨F4,rfl,hs⟩:=hrel;have Hs:=zh hs;clear hs;go_wp2;go_end0;refine ⟨rfl,F4,?_⟩;have g:=Hs.out;rw [HS'.out,zI (U:=zAb kind L G) X y (fun j=>⟨fun h=>(zAN hne (k:=16) (by omega)).1 (.inl h),fun h=>((zAN hne (k:=16) (by omega)).2 h).elim id (fun h=>absurd h (Zo j))⟩)] at g;exact g
end Go.Proofs.YtcppbdlmcbjmeaaGreatDoor
