/- Lemmas that the law needs, part 17. -/
import Derived.Test.YtcppbdlmcbjmeaaGreatDoorK09
import Derived.StillTailTactics
set_option maxHeartbeats 6400000
set_option maxRecDepth 100000
namespace Go.Proofs.YtcppbdlmcbjmeaaGreatDoor
open Go.RowKit
def zH3 (ds:List DoneP) (f wide n:Nat) (md:Nat→Int) (b:Nat):Int:=if bX b=0 then zCx ds (Zb f wide n) (zHS 3 (bY b)) else md (zHS (bX b-1) (bY b))
def zML (ds:List DoneP) (wide n:Nat) (md:Nat→Int) (b:Nat):Int:=if bY b=0 then zCx ds (Zw wide n) (zHS (bX b) 3) else md (zHS (bX b) (bY b-1))
def zAs (ds:List DoneP) (f wide n:Nat) (md:Nat→Int) (b:Nat):Int:=zCt (zH3 ds f wide n md b) (zML ds wide n md b)
def zAd (u own:Int):List Ask:=.elem 2 0 (zl (own==u)) 1::(if own=u then [] else [.elem 3 0 (own-zl (decide (u<own))) 7])
def ZS (g:Nat→List Ask):Nat→List Ask
 |0=>[]
 |j+1=>g (16-(j+1))++ZS g j
theorem zLm:∀ b,b<16→bX b≠0→zHS (bX b-1) (bY b)<b:=by decide
theorem zM1:∀ b,b<16→bY b≠0→zHS (bX b) (bY b-1)<b:=by decide
variable {c:Cod} {F0 F:List Nat} {w0 w:World} {kb sb mb:Nat} {S X:Nat→Value} {r:List Ask}
theorem Scene.st {n f wide:Nat} {D:List Value} (h:Scene c F0 w0 w kb sb mb S X n D F r) (h0:S 0=.int .i64 f) (h21:S 21=.int .i64 wide) (bf:f≤1000000) (bw:1≤wide∧wide≤1000000) (bn:n≤1000000):StAt w sb S f wide n D:=
 ⟨h.s,h0,h21,h.a,bf,bw,bn⟩
def zA5 (X:Nat→Value) (md:Nat→Int) (k:Nat):Nat→Value:=fun j=>if 2≤j∧j<2+k then .int .i64 (md (j-2)) else X j
theorem zJB (X:Nat→Value) (md:Nat→Int):zA5 X md 0=X:=by funext j;unfold zA5;rw [if_neg (by omega)]
theorem zDt (X:Nat→Value) (md:Nat→Int) (k:Nat):upd (zA5 X md k) (2+k) (.int .i64 (md k))=zA5 X md (k+1):=by
 funext j
 unfold upd zA5
 by_cases h:j=2+k
 ·subst h;rw [if_pos rfl,if_pos ⟨by omega,by omega⟩,show 2+k-2=k by omega]
 ·rw [if_neg h]
  by_cases h2:2≤j∧j<2+k
  ·rw [if_pos h2,if_pos ⟨h2.1,by omega⟩]
  ·rw [if_neg h2,if_neg (by omega)]
theorem zDs (X:Nat→Value) (md:Nat→Int) (k i:Nat) (h:i<k):zA5 X md k (2+i)=.int .i64 (md i):=by unfold zA5;rw [if_pos ⟨by omega,by omega⟩,show 2+i-2=i by omega]
theorem zE7 (X:Nat→Value) (md:Nat→Int) (k i:Nat) (h:k≤i):zA5 X md k (2+i)=X (2+i):=by unfold zA5;rw [if_neg (by omega)]
theorem zMJ (f:Nat→Value) (i:Nat) (a b:Value):upd (upd f i a) i b=upd f i b:=by funext j;unfold upd;split<;>rfl
theorem zKx {f wide n:Nat} {ds:List DoneP} {md own:Nat→Int} (hc:c.Ok) (h:Scene c F0 w0 w kb sb mb S X n (zG ds) F (ZS (fun b=>zAd (zAs ds f wide n md b) (md b)) 16++r))
 (h0:S 0=.int .i64 f) (h21:S 21=.int .i64 wide) (bf:f≤1000000) (bw:1≤wide∧wide≤1000000) (bn:n≤1000000)
 (hm:∀ i,i<16→0≤md i∧md i≤8) (hu:∀ i,i<16→0≤zAs ds f wide n md i∧zAs ds f wide n md i≤8) (hX:∀ i,i<16→X (2+i)=.int .i64 (own i)∧0≤own i∧own i≤8) (hw:c.wr=true→∀ i,i<16→own i=md i):
 Calls Tryz.prog 72 #[.pointer (some ⟨kb,0,none⟩)] w fun e w'=>e=.returned (.tuple #[])∧∃ F',Scene c F0 w0 w' kb sb mb S (zA5 X md 16) n (zG ds) F' r:=by
 have k2:=h.k2;have mE:=hc.mE;have eE:=hc.eE;have H:=zh h;have HC:=zh hc;have H0:=zh h0;have H21:=zh h21;have Hm:=zh hm;have Hu:=zh hu;have HX:=zh hX;have Hw:=zh hw;have Hb:=zh (And.intro bf (And.intro bw bn));clear h hc h0 h21 hm hu hX hw bf bw bn
 go_enter Tryz.func72,Tryz.ntmps72
 go_wp2
 go_loopw [12] (fun i wr=>∃ (k:Nat) (F1:List Nat),k≤16∧i=.int .i64 k∧Scene c F0 w0 wr kb sb mb S (zA5 X md k) n (zG ds) F1 (ZS (fun b=>zAd (zAs ds f wide n md b) (md b)) (16-k)++r)) (fun i _=>16-(intOf i).toNat)
 case atStart=>exact ⟨0,F,Nat.zero_le _,rfl,by rw [zJB];exact H.out⟩
 case round=>
  obtain ⟨k,F1,hk,rfl,hs⟩:=hrel
  by_cases hlt:k<16
  ·have hb:=zNj k;have hb2:=zNi k hlt;obtain ⟨u,hu⟩:∃ u,u=zAs ds f wide n md k:=⟨_,rfl⟩;have hub:=Hu.out k hlt;rw [←hu] at hub;have hsk:Scene c F0 w0 wr kb sb mb S (zA5 X md k) n (zG ds) F1 (zAd u (md k)++(ZS (fun b=>zAd (zAs ds f wide n md b) (md b)) (16-(k+1))++r)):=by
    have e:ZS (fun b=>zAd (zAs ds f wide n md b) (md b)) (16-k)=zAd u (md k)++ZS (fun b=>zAd (zAs ds f wide n md b) (md b)) (16-(k+1)):=by
     rw [show 16-k=(16-(k+1))+1 by omega]
     show (fun b=>zAd (zAs ds f wide n md b) (md b)) (16-((16-(k+1))+1))++_=_
     rw [show 16-((16-(k+1))+1)=k by omega,hu]
    rw [e,List.append_assoc] at hs;exact hs
   have hst:=hsk.st H0.out H21.out Hb.out.1 Hb.out.2.1 Hb.out.2.2;have hl:∀ wz j,wz=wr.drewN j→Calls Tryz.prog 111 #[.pointer (some ⟨sb,0,none⟩),.pointer (some ⟨mb,0,none⟩),.int .i64 ((bX k:Int)-1),.int .i64 (bY k)] wz fun e w'=>e=.returned (.int .i64 (zH3 ds f wide n md k))∧∃ j,w'=wz.drewN j:=by
    rintro wz j rfl;unfold zH3
    by_cases hx:bX k=0
    ·rw [if_pos hx];exact zFt (hst.drewN j) (Zb f wide n) _ _ 3 (bY k) _ (.inl ⟨by rw [hx];rfl,rfl,rfl,hb2,rfl⟩)
    ·rw [if_neg hx];obtain ⟨x1,hx1⟩:∃ x1,bX k=x1+1:=⟨bX k-1,by omega⟩;have hlt2:=zLm k hlt hx;rw [show ((bX k:Int)-1)=(x1:Int) by omega];rw [show bX k-1=x1 by omega] at hlt2 ⊢;exact zFu (hst.drewN j) hsk.m x1 (bY k) (by omega) hb2 (zDs X md k _ hlt2)
   have ht:∀ wz j,wz=wr.drewN j→Calls Tryz.prog 111 #[.pointer (some ⟨sb,0,none⟩),.pointer (some ⟨mb,0,none⟩),.int .i64 (bX k),.int .i64 ((bY k:Int)-1)] wz fun e w'=>e=.returned (.int .i64 (zML ds wide n md k))∧∃ j,w'=wz.drewN j:=by
    rintro wz j rfl;unfold zML
    by_cases hx:bY k=0
    ·rw [if_pos hx];exact zFt (hst.drewN j) (Zw wide n) _ _ (bX k) 3 _ (.inr ⟨by rw [hx];rfl,rfl,rfl,hb,rfl⟩)
    ·rw [if_neg hx];obtain ⟨x1,hx1⟩:∃ x1,bY k=x1+1:=⟨bY k-1,by omega⟩;have hlt2:=zM1 k hlt hx;rw [show ((bY k:Int)-1)=(x1:Int) by omega];rw [show bY k-1=x1 by omega] at hlt2 ⊢;exact zFu (hst.drewN j) hsk.m (bX k) x1 hb (by omega) (zDs X md k _ hlt2)
   have hus:=fun w=>zK3 (zH3 ds f wide n md k) (zML ds wide n md k) w
   have eu:zCt (zH3 ds f wide n md k) (zML ds wide n md k)=u:=hu.symm;simp only [eu] at hus;obtain ⟨L,hL⟩:∃ L,L=zH3 ds f wide n md k:=⟨_,rfl⟩;obtain ⟨Tp,hT⟩:∃ Tp,Tp=zML ds wide n md k:=⟨_,rfl⟩;rw [←hL,←hT] at hus;rw [←hL] at hl;rw [←hT] at ht;obtain ⟨hown,ho0,ho8⟩:=HX.out k hlt;obtain ⟨o,ho⟩:∃ o,o=own k:=⟨_,rfl⟩;obtain ⟨m,hmm⟩:∃ m,m=md k:=⟨_,rfl⟩;have hmb:=Hm.out k hlt;rw [←ho] at hown ho0 ho8;rw [←hmm] at hmb hsk;have hwo:c.wr=true→o=m:=fun h=>by rw [ho,hmm];exact Hw.out h k hlt
   have k0:=hsk.k0;have k1:=hsk.k1;have ck:wr.cell? ⟨mb,2+k,none⟩=some (.int .i64 o):=by rw [hsk.m.cell (2+k) (by omega),zE7 X md k k (Nat.le_refl _),hown]
   have hBk:=fun w=>zK5 k hlt w
   obtain ⟨x,hx⟩:∃ x,x=bX k:=⟨_,rfl⟩;obtain ⟨y,hy⟩:∃ y,y=bY k:=⟨_,rfl⟩;simp only [←hx,←hy] at hl ht hBk hb hb2;have qx:IntKind.i64.wrap ((x:Int)-1)=(x:Int)-1:=sw _ (by omega) (by omega);have qy:IntKind.i64.wrap ((y:Int)-1)=(y:Int)-1:=sw _ (by omega) (by omega);have HL:=zh hl;have HT:=zh ht;have HU:=zh hus;have HB:=zh hBk;have Hs:=zh hsk;have Hwo:=zh hwo;have Hmm:=zh hmm;have HO:=zh hown;clear hs hst hl ht hus eu hL hT hown ho hmm hwo hBk hx hy hsk hu
   go_wp2_with fail
   refine (HB.out _).mono ?_;rintro e w1 ⟨rfl,rfl⟩
   go_wp2_with fail
   go_quiet (first
    |(go_at_call 111;with_reducible exact Calls.quiet_of (HL.out _ _ rfl))
    |(go_at_call 111;with_reducible exact Calls.quiet_of (HT.out _ _ rfl))
    |(go_at_call 110;exact Calls.quiet_of_same ((HU.out _).mono fun _ _ ⟨h1,h2⟩=>⟨h1,h2.symm⟩)))
   rename_i nq
   go_wp2_with fail
   have hz:=Hs.out.drewN HC.out nq;clear Hs k0 k1 ck HL HT HU;generalize wr.drewN nq=wz at*;have k1:=hz.k1;have k2:=hz.k2;have Hz:=zh hz;clear hz
   go_still_tail 10,(by kernel_rfl)
   still_call ((zBz _ _).mono fun _ _ h=>⟨h.1,h.2.symm⟩)
   repeat still_step
   refine wpStill_nil ?_
   change wpList _ _ _ _ _ wz.drew
   have hz:=Hz.out.drew HC.out;generalize wz.drew=wy at*
   go_wp2_with fail
   obtain ⟨rest,hrest⟩:∃ rest,rest=ZS (fun b=>zAd (zAs ds f wide n md b) (md b)) (16-(k+1))++r:=⟨_,rfl⟩;have hz2:Scene c F0 w0 wy kb sb mb S (zA5 X md k) n (zG ds) F1 (.elem 2 0 (zl (m==u)) 1::((if m=u then [] else [.elem 3 0 (m-zl (decide (u<m))) 7])++rest)):=by rw [hrest];exact hz
   have Hrest:=zh hrest;clear hz hrest Hz;refine (hz2.elem HC.out _ (fun h=>by rw [Hwo.out h])).mono ?_;rintro e wa ⟨rfl,F2,g1⟩;have hki:(k:Int)<16:=by omega
   have ck:wa.cell? ⟨mb,2+k,none⟩=some (.int .i64 o):=by rw [g1.m.cell (2+k) (by omega),zE7 X md k k (Nat.le_refl _),HO.out]
   have zk:=g1.m.free (2+k)
   by_cases hmu:m=u
   ·subst hmu;rw [if_pos rfl] at g1;have g2:Scene c F0 w0 wa kb sb mb S (zA5 X md k) n (zG ds) F2 rest:=g1;have G2:=zh g2;clear g1 g2 hz2;rw [show zl (m==m)=1 by simp [zl]];go_wp2;refine ⟨⟨k+1,F2,by omega,by simp,?_⟩,?_⟩
    ·have g3:=G2.out.setM HC.out (2+k) (.int .i64 m);rw [show zA5 X md (k+1)=upd (zA5 X md k) (2+k) (.int .i64 m) by rw [Hmm.out,zDt],←Hrest.out];exact g3
    ·simp [intOf];omega
   ·have hbeq:(m==u)=false:=by simpa using hmu
    rw [if_neg hmu] at g1;have g2:Scene c F0 w0 wa kb sb mb S (zA5 X md k) n (zG ds) F2 (.elem 3 0 (m-zl (decide (u<m))) 7::rest):=g1;have k1a:=g2.k1;have G2:=zh g2;clear g1 g2 hz2;rw [hbeq,show zl false=0 from rfl]
    go_wp2_with fail
    have qf:IntKind.i64.wrap (o-zl (decide (u<o)))=o-zl (decide (u<o)):=by unfold zl;split<;>exact sw _ (by omega) (by omega)
    refine zH (by kernel_rfl) (fun w'=>w'.cell? ⟨kb,1,none⟩=some (.iface c.T c.pv)) 18 ?_;have g4:=G2.out.drew HC.out;generalize wa.drew=wd at*;have hS0:(fun w'=>w'.cell? ⟨kb,1,none⟩=some (.iface c.T c.pv)) wd:=g4.k1;refine AnyL.tk 0 (h:=?_);refine AnyL.tk 1 (h:=?_);refine AnyL.tk 2 (h:=?_);refine AnyL.tk 3 (h:=?_);refine AnyL.tk 4 (h:=?_);refine AnyL.tk 5 (h:=?_);refine AnyL.tk 6 (h:=?_);refine AnyL.tk 7 (h:=?_);refine AnyL.tk 8 (h:=?_);refine AnyL.tk 9 (h:=?_);refine AnyL.tk 12 (h:=?_);refine AnyL.tk 13 (h:=?_);refine AnyL.tk 15 (h:=?_);refine AnyL.tk 16 (h:=?_);refine AnyL.on 10 (h:=fun K hK=>?_);go_simp;refine (zBz _ _).mono ?_;rintro e w9 ⟨rfl,rfl⟩;refine hK _ _ (fun _=>hS0) (fun hKq=>?_);clear hK K hKq
    try simp only [zpt]
    refine AnyL.on 11 (h:=fun K hK=>?_);go_simp;refine hK _ _ (fun _=>hS0) (fun hKq=>?_);clear hK K hKq
    try simp only [zpt]
    refine AnyL.on 14 (h:=fun K hK=>?_);go_simp;refine (g4.elem HC.out _ (fun h=>by rw [Hwo.out h])).mono ?_;rintro e wb ⟨rfl,F3,g5⟩;have hS1:=g5.k1;have ckb:wb.cell? ⟨mb,2+k,none⟩=some (.int .i64 o):=by rw [g5.m.cell (2+k) (by omega),zE7 X md k k (Nat.le_refl _),HO.out]
    have zkb:=g5.m.free (2+k);have G5:=zh g5;clear g4 g5 ck zk k1a hS0;refine hK _ _ (fun _=>hS1) (fun hKq=>?_);clear hK K hKq
    try simp only [zpt]
    refine AnyL.on 17 (h:=fun K hK=>?_);go_simp;refine hK _ _ (fun _=>hS1) (fun hKq=>?_);clear hK K hKq
    try simp only [zpt]
    refine AnyL.on 18 (h:=fun K hK=>?_);go_simp;refine hK _ _ (fun h=>absurd rfl h) (fun hKq=>?_);clear hK K hKq
    try simp only [zpt]
    refine AnyL.dn (h:=?_);have g6:=G5.out.setM HC.out (2+k) (.int .i64 (m-zl (decide (u<m))));clear G5 ckb zkb hS1 G2;generalize wb.setCell ⟨mb,2+k,none⟩ (.int .i64 (m-zl (decide (u<m))))=wc at*;have ck:wc.cell? ⟨mb,2+k,none⟩=some (.int .i64 (m-zl (decide (u<m)))):=by rw [g6.m.cell (2+k) (by omega),ZK]
    have zk:=g6.m.free (2+k);have G6:=zh g6;clear g6
    by_cases hgt:u<m
    ·rw [show m-zl (decide (u<m))=m-1 by rw [decide_eq_true hgt];rfl] at ck G6 ⊢;go_wp2
     go_region
     go_wp2;refine ⟨⟨k+1,F3,by omega,by simp,?_⟩,?_⟩
     ·have g7:=(G6.out.setM HC.out (2+k) (.int .i64 m)).drew HC.out;rw [zMJ,show upd (zA5 X md k) (2+k) (.int .i64 m)=zA5 X md (k+1) by rw [Hmm.out,zDt],Hrest.out] at g7;exact g7
     ·simp [intOf];omega
    ·rw [show m-zl (decide (u<m))=m by rw [decide_eq_false hgt];simp [zl]] at ck G6 ⊢;go_wp2;refine ⟨⟨k+1,F3,by omega,by simp,?_⟩,?_⟩
     ·have g7:=G6.out;rw [show upd (zA5 X md k) (2+k) (.int .i64 m)=zA5 X md (k+1) by rw [Hmm.out,zDt],Hrest.out] at g7;exact g7
     ·simp [intOf];omega
  ·obtain rfl:k=16:=by omega
   have Hs:Hid (Scene c F0 w0 wr kb sb mb S (zA5 X md 16) n (zG ds) F1 r):=zh hs;clear hs;go_wp2;go_end0;exact ⟨rfl,F1,Hs.out⟩
noncomputable def zAt (T:Nat→Prop) (X:Nat→Value) (y:Nat→Int):Nat→Value:=open Classical in fun j=>if T j then .int .i64 (y j) else X j
theorem zA0 {T:Nat→Prop} {X:Nat→Value} {y:Nat→Int} {j:Nat} (h:T j):zAt T X y j=.int .i64 (y j):=by unfold zAt;rw [if_pos h]
theorem zb {T:Nat→Prop} {X:Nat→Value} {y:Nat→Int} {j:Nat} (h:¬ T j):zAt T X y j=X j:=by unfold zAt;rw [if_neg h]
theorem ZH {T U:Nat→Prop} (X:Nat→Value) (y:Nat→Int) (h:∀ j,T j↔U j):zAt T X y=zAt U X y:=by
 have:T=U:=funext fun j=>propext (h j)
 rw [this]
theorem zJ4 (X:Nat→Value) (y:Nat→Int):zAt (fun _=>False) X y=X:=by funext j;exact zb (fun h=>h)
theorem zGb (T:Nat→Prop) (X:Nat→Value) (y:Nat→Int) (i:Nat):upd (zAt T X y) i (.int .i64 (y i))=zAt (fun j=>T j∨j=i) X y:=by
 funext j
 unfold upd
 by_cases h:j=i
 ·subst h;rw [if_pos rfl,zA0 (.inr rfl)]
 ·rw [if_neg h]
  by_cases hT:T j
  ·rw [zA0 hT,zA0 (.inl hT)]
  ·rw [zb hT,zb (fun e=>e.elim hT h)]
def zCF (y:Nat→Int) (off len:Nat):List Int:=(List.range len).map fun i=>y (off+i)
theorem zAG (y:Nat→Int) (off len:Nat):(zCF y off len).length=len:=by simp [zCF]
theorem zH9 (y:Nat→Int) (off len i:Nat) (h:i<len):(zCF y off len).getD i 0=y (off+i):=by simp [zCF,List.getD,h]
theorem zI8 (T:Nat→Prop) (X:Nat→Value) (y:Nat→Int) (off len:Nat):
 (fun j=>if off≤j∧j<off+(zCF y off len).length then Value.int .i64 ((zCF y off len).getD (j-off) 0) else zAt T X y j)=zAt (fun j=>T j∨(off≤j∧j<off+len)) X y:=by
 funext j
 rw [zAG]
 by_cases h:off≤j∧j<off+len
 ·rw [if_pos h,zA0 (.inr h),zH9 y off len _ (by omega),show off+(j-off)=j by omega]
 ·rw [if_neg h]
  by_cases hT:T j
  ·rw [zA0 hT,zA0 (.inl hT)]
  ·rw [zb hT,zb (fun e=>e.elim hT h)]
variable {c:Cod} {F0 F:List Nat} {w0 w:World} {kb sb mb n:Nat} {S X:Nat→Value} {D:List Value} {r:List Ask}
theorem Scene.coefs {T:Nat→Prop} {y:Nat→Int} {off len:Nat} {cat inc:Int} (h:Scene c F0 w0 w kb sb mb S (zAt T X y) n D F (.coefs (zCF y off len) cat inc::r)) (hc:c.Ok) (cap:Nat) (ho:48≤off∧off+len≤482) (hl:len≤cap)
 (hX:∀ j,48≤j→j<482→∃ n,X j=.int .i64 n) (hw:c.wr=true→∀ j,48≤j→j<482→X j=.int .i64 (y j)):
 Calls Tryz.prog c.fC #[c.pv,.slice (some ⟨mb,off,none⟩) len cap,.int .i64 cat,.int .i64 inc] w fun e w'=>e=.returned (.tuple #[])∧∃ F',Scene c F0 w0 w' kb sb mb S (zAt (fun j=>T j∨(off≤j∧j<off+len)) X y) n D F' r:=by
 have hco:=hc.coefs F r w (zCF y off len) cat inc mb off cap (zAt T X y) h.c h.m (by rw [zAG];exact ho.2) (by rw [zAG];exact hl) h.nm
  (fun i hi=>by
    rw [zAG] at hi
    by_cases hT:T (off+i)
    ·exact ⟨_,zA0 hT⟩
    ·rw [zb hT];exact hX _ (by omega) (by omega))
  (fun hwr i hi=>by
    rw [zAG] at hi;rw [zH9 y off len i hi]
    by_cases hT:T (off+i)
    ·exact zA0 hT
    ·rw [zb hT];exact hw hwr _ (by omega) (by omega))
 rw [zI8,zAG] at hco;refine hco.mono ?_;rintro e w' ⟨rfl,F',h1,h2,h3,h4⟩;refine ⟨rfl,F',?_⟩;have hsz:=h.o.size;have hl0:=h.l;exact {
  k:=h.k.only h2.only (fun e=>by rcases List.mem_cons.1 e with e|e;·exact h.km e
                                 ·exact h.nk e)
  s:=h.s.only h2.only (fun e=>by rcases List.mem_cons.1 e with e|e;·exact h.sm e
                                 ·exact h.ns e)
  m:=h4
  a:=zF h.a fun g hg2=>by
   obtain ⟨cur,hc⟩:=zD h.a hg2
   exact h2.only.block g (lt_of_block hc) (fun e=>by rcases List.mem_cons.1 e with e|e;·exact (h.ag hg2).2.2.1 e
                                                     ·exact h.na g hg2 e)
  c:=h1
  nk:=fun e=>(h2.new _ e).elim (fun e=>by rcases List.mem_cons.1 e with e|e;·exact h.km e
                                          ·exact h.nk e) (fun h2=>by omega)
  ns:=fun e=>(h2.new _ e).elim (fun e=>by rcases List.mem_cons.1 e with e|e;·exact h.sm e
                                          ·exact h.ns e) (fun h2=>by omega)
  nm:=h3
  na:=fun g hg2 e=>(h2.new _ e).elim (fun e=>by rcases List.mem_cons.1 e with e|e;·exact (h.ag hg2).2.2.1 e
                                                ·exact h.na g hg2 e) (fun h2=>by have:=(h.ag hg2).2.2.2;omega)
  o:=h.o.trans' h2.only (fun i hi=>by
   rcases List.mem_cons.1 hi with rfl|hi
   ·exact .inl (by simp)
   ·exact (h.n i hi).elim (fun h2=> .inl (by simp [h2])) .inr)
  n:=fun i hi=>(h2.new i hi).elim (fun hi2=>by
   rcases List.mem_cons.1 hi2 with rfl|hi2
   ·exact absurd hi h3
   ·exact h.n i hi2) (fun h2=> .inr (Nat.le_trans hsz h2))
  l:=h.l }
def zn (kind:Int) (L:Nat) (inc:Int) (y:Nat→Int) (b:Nat):List Ask:=if L/2^(b/4)%2=0 then [] else if kind=1 then [.coefs (zCF y (50+16*b+1) 15) 1 inc] else [.coefs (zCF y (50+16*b) 16) 2 inc]
def ZX (inc:Int) (y:Nat→Int):Nat→List Ask
 |0=>[]
 |j+1=> .coefs (zCF y (50+16*(24-(j+1))+1) 15) 3 inc::ZX inc y j
def zAB (kind:Int) (L H:Nat) (d inc:Int) (y:Nat→Int):List Ask:=
 (if kind=1 then .elem 11 0 (zl (decide (0<L))) 1 else .elem 11 0 L 15):: .elem 12 0 H 2::((if zAg kind (L+16*H)=true then [.elem 13 0 d 0] else [])++
  ((if kind=1 then [.coefs (zCF y 434 16) 0 inc] else [])++(ZS (zn kind L inc y) 16++((if 0<H then [.coefs (zCF y 450 4) 3 inc,.coefs (zCF y 466 4) 3 inc] else [])++(if H=2 then ZX inc y 8 else [])))))
variable {c:Cod} {F0 F:List Nat} {w0 w:World} {kb sb mb n f wide:Nat} {S X:Nat→Value} {ds:List DoneP} {r:List Ask}
def zBf (ds:List DoneP) (o:Option Nat):Int:=match o with
 |none=>0
 |some k=>match ds[k]? with
  |none=>0
  |some d=>d.cbp
theorem zGc (X:Nat→Value) (y:Nat→Int) (i:Nat):upd X i (.int .i64 (y i))=zAt (fun j=>j=i) X y:=by
 have h:=zGb (fun _=>False) X y i;rw [zJ4] at h;rw [h];exact ZH X y (fun j=>by simp)
theorem zGd (h:StAt w sb S f wide n (zG ds)) (hl:ds.length=n):(zm S (Zb f wide n)=.pointer none∧zBf ds (Zb f wide n)=0)∨
 ∃ g k,zm S (Zb f wide n)=.pointer (some ⟨g,k*46,none⟩)∧w.cell? ⟨g,k*46+1,none⟩=some (.int .i64 (zBf ds (Zb f wide n))):=by
 rcases ho:Zb f wide n with _|k
 ·exact .inl ⟨rfl,rfl⟩
 ·have hk:=zGe ho;obtain ⟨a,cap,hv,hg⟩:=h.slice;obtain ⟨g,rfl,hg2⟩:=hg (by omega);obtain ⟨d,hd⟩:∃ d,ds[k]? =some d:=⟨ds[k],List.getElem?_eq_getElem (by omega)⟩;refine .inr ⟨g,k,by simp [zm,hg2],?_⟩;have:=h.cell hd (j:=1) (by decide) (zKh d) hg2;rw [this];simp [zBf,hd]
def Zr (q j:Nat):Prop:=306≤j∧j<50+16*q∧(j-50)%16≠0
theorem Zo (j:Nat):¬ Zr 16 j:=by unfold Zr;omega
theorem zCW (q j:Nat) (hq:16≤q):Zr (q+1) j↔Zr q j∨(50+16*q+1≤j∧j<50+16*q+1+15):=by unfold Zr;omega
theorem zFl (inc:Int) (y:Nat→Int) {q:Nat} (hk:q<24):ZX inc y (24-q)=.coefs (zCF y (50+16*q+1) 15) 3 inc::ZX inc y (24-(q+1)):=by
 rw [show 24-q=(24-(q+1))+1 by omega]
 show (Ask.coefs (zCF y (50+16*(24-((24-(q+1))+1))+1) 15) 3 inc::ZX inc y (24-(q+1)))=_
 rw [show 24-((24-(q+1))+1)=q by omega]
def zAD (G:Nat) (inc:Int) (y:Nat→Int) (q:Nat):List Ask:=if G=2 then ZX inc y (24-q) else []
theorem zCU (inc:Int) (y:Nat→Int) {G q:Nat} (hG:G=2) (hk:q<24):zAD G inc y q=.coefs (zCF y (50+16*q+1) 15) 3 inc::zAD G inc y (q+1):=by
 unfold zAD;rw [if_pos hG,if_pos hG,zFl inc y hk]
theorem zu (inc:Int) (y:Nat→Int) {G q:Nat} (h:q=24∨G≠2):zAD G inc y q=[]:=by
 unfold zAD
 rcases h with rfl|h
 ·split<;>rfl
 ·rw [if_neg h]
def Zy (kind:Int) (L k j:Nat):Prop:=50≤j∧j<50+16*k∧L/2^((j-50)/16/4)%2=1∧(kind=1→(j-50)%16≠0)
theorem zDr (kind:Int) {L k:Nat} (h:L/2^(k/4)%2=0) (j:Nat):Zy kind L (k+1) j↔Zy kind L k j:=by
 unfold Zy
 by_cases hj:50+16*k≤j∧j<50+16*(k+1)
 ·rw [show (j-50)/16=k by omega,h];omega
 ·omega
theorem zKB {L k:Nat} (h:L/2^(k/4)%2=1) (j:Nat):Zy 1 L (k+1) j↔Zy 1 L k j∨(50+16*k+1≤j∧j<50+16*k+1+15):=by
 unfold Zy
 by_cases hj:50+16*k≤j∧j<50+16*(k+1)
 ·rw [show (j-50)/16=k by omega,h];omega
 ·omega
theorem zHG {kind:Int} (hk:kind≠1) {L k:Nat} (h:L/2^(k/4)%2=1) (j:Nat):Zy kind L (k+1) j↔Zy kind L k j∨(50+16*k≤j∧j<50+16*k+16):=by
 unfold Zy
 by_cases hj:50+16*k≤j∧j<50+16*(k+1)
 ·rw [show (j-50)/16=k by omega,h];omega
 ·omega
theorem zDq (kind:Int) (L j:Nat):¬ Zy kind L 0 j:=by unfold Zy;omega
theorem zAc (kind inc:Int) (y:Nat→Int) {L k:Nat} (hk:k<16) (h:L/2^(k/4)%2=0):ZS (zn kind L inc y) (16-k)=ZS (zn kind L inc y) (16-(k+1)):=by
 rw [show 16-k=(16-(k+1))+1 by omega]
 show zn kind L inc y (16-((16-(k+1))+1))++_=_
 rw [show 16-((16-(k+1))+1)=k by omega];unfold zn;rw [if_pos h]
 rfl
theorem zDo (inc:Int) (y:Nat→Int) {L k:Nat} (hk:k<16) (h:L/2^(k/4)%2=1):ZS (zn 1 L inc y) (16-k)=.coefs (zCF y (50+16*k+1) 15) 1 inc::ZS (zn 1 L inc y) (16-(k+1)):=by
 rw [show 16-k=(16-(k+1))+1 by omega]
 show zn 1 L inc y (16-((16-(k+1))+1))++_=_
 rw [show 16-((16-(k+1))+1)=k by omega];unfold zn;rw [if_neg (by omega),if_pos rfl]
 rfl
theorem zBr {kind:Int} (hn:kind≠1) (inc:Int) (y:Nat→Int) {L k:Nat} (hk:k<16) (h:L/2^(k/4)%2=1):ZS (zn kind L inc y) (16-k)=.coefs (zCF y (50+16*k) 16) 2 inc::ZS (zn kind L inc y) (16-(k+1)):=by
 rw [show 16-k=(16-(k+1))+1 by omega]
 show zn kind L inc y (16-((16-(k+1))+1))++_=_
 rw [show 16-((16-(k+1))+1)=k by omega];unfold zn;rw [if_neg (by omega),if_neg hn]
 rfl
def zAa (kind:Int) (L H:Nat) (j:Nat):Prop:=
 j=48∨(zAg kind (L+16*H)=true∧j=49)∨(kind=1∧434≤j∧j<450)∨(50≤j∧j<306∧L/2^((j-50)/16/4)%2=1∧(kind=1→(j-50)%16≠0))∨(0<H∧((450≤j∧j<454)∨(466≤j∧j<470)))∨(H=2∧306≤j∧j<434∧(j-50)%16≠0)
def rT7 (L G j:Nat):Prop:=(((j=48∨j=49)∨(434≤j∧j<434+16))∨Zy 1 L 16 j)∨(0<G∧((450≤j∧j<450+4)∨(466≤j∧j<466+4)))
theorem zMY {L G j:Nat} (hG:0<G):((((j=48∨j=49)∨(434≤j∧j<434+16))∨Zy 1 L 16 j)∨(450≤j∧j<450+4))∨(466≤j∧j<466+4)↔rT7 L G j:=
 ⟨fun h=>h.elim (fun h=>h.elim .inl (fun h=> .inr ⟨hG,.inl h⟩)) (fun h=> .inr ⟨hG,.inr h⟩),fun h=>h.elim (fun h=> .inl (.inl h)) (fun h=>h.2.elim (fun h=> .inl (.inr h)) .inr)⟩
theorem zMZ {L G j:Nat} (hG:¬ 0<G):(((j=48∨j=49)∨(434≤j∧j<434+16))∨Zy 1 L 16 j)↔rT7 L G j:=
 ⟨.inl,fun h=>h.elim id (fun h=>absurd h.1 hG)⟩
theorem zCK {L G j k:Nat} (hk:(G=2∧k=24)∨(G≠2∧k=16)):rT7 L G j∨Zr k j↔zAa 1 L G j:=by
 unfold rT7 zAa Zr Zy
 constructor
 ·rintro ((((((h|h)|h)|h)|h))|h)
  ·exact .inl h
  ·exact .inr (.inl ⟨by simp [zAg],h⟩)
  ·exact .inr (.inr (.inl ⟨rfl,h⟩))
  ·exact .inr (.inr (.inr (.inl ⟨h.1,h.2.1,h.2.2.1,h.2.2.2⟩)))
  ·exact .inr (.inr (.inr (.inr (.inl h))))
  ·exact .inr (.inr (.inr (.inr (.inr ⟨by omega,h.1,by omega,h.2.2⟩))))
 ·rintro (h|h|h|h|h|h)
  ·exact .inl (.inl (.inl (.inl (.inl h))))
  ·exact .inl (.inl (.inl (.inl (.inr h.2))))
  ·exact .inl (.inl (.inl (.inr h.2)))
  ·exact .inl (.inl (.inr ⟨h.1,h.2.1,h.2.2.1,h.2.2.2⟩))
  ·exact .inl (.inr h)
  ·exact .inr ⟨h.2.1,by omega,h.2.2.2⟩
theorem zIm {p v d inc cb:Int} {L G:Nat} {y:Nat→Int} (hc:c.Ok) (h:Scene c F0 w0 w kb sb mb S X n (zG ds) F (zAB 1 L G d inc y++r))
 (h0:S 0=.int .i64 f) (h21:S 21=.int .i64 wide) (bf:f≤1000000) (bw:1≤wide∧wide≤1000000) (bn:n≤1000000) (h22:S 22=.int .i64 p)
 (hX0:X 0=.int .i64 1) (hX48:X 48=.int .i64 cb) (hX49:X 49=.int .i64 v) (hX:∀ j,48≤j→j<482→∃ n,X j=.int .i64 n) (_hcb:0≤cb∧cb≤47)
 (hw:c.wr=true→∀ j,48≤j→j<482→X j=.int .i64 (y j)) (hL:L=0∨L=15) (hH:G≤2) (hy48:y 48=L+16*G)
 (hinc:inc=zl (decide (0<zBf ds (Zb f wide n)))) (hds:ds.length=n∧∀ d∈ds,0≤d.cbp∧d.cbp≤47) (hp:0≤p∧p≤51) (hd:-26≤d∧d≤25) (hq:y 49=(p+d+52)%52) (hv:0≤v∧v≤51):
 Calls Tryz.prog 73 #[.pointer (some ⟨kb,0,none⟩)] w fun e w'=>e=.returned (.tuple #[])∧∃ F',Scene c F0 w0 w' kb sb mb (upd S 22 (.int .i64 (y 49))) (zAt (zAa 1 L G) X y) n (zG ds) F' r:=by
 have k2:=h.k2;have m48:w.cell? ⟨mb,48,none⟩=some (.int .i64 cb):=by rw [h.m.cell 48 (by decide),hX48]
 have mE:=hc.mE;have eE:=hc.eE;have mC:=hc.mC;have eC:=hc.eC;have hcw:Hid (c.wr=true→cb=L+16*G):=zh fun hh=>by
  have:=hw hh 48 (by decide) (by decide);rw [hX48] at this;injection this with _ this
  rw [this,hy48]
 have HS:=zh h;have HC:=zh hc;have H0:=zh h0;have H21:=zh h21;have H22:=zh h22;have HX0:=zh hX0;have HX48:=zh hX48;have HX49:=zh hX49;have HX:=zh hX;have Hw:=zh hw;have Hy:=zh hy48;have Hinc:=zh hinc;have Hds:=zh hds;have Hq:=zh hq;have Hb:=zh (And.intro bf (And.intro bw bn));clear h hc h0 h21 h22 hX0 hX48 hX49 hX hw hy48 hinc hds hq bf bw bn
 go_enter Tryz.func73,Tryz.ntmps73
 go_wp2
 go_quiet (fail)
 rename_i nq;have hz:=HS.out.drewN HC.out nq;clear HS k2 m48;generalize w.drewN nq=wz at*;have k1:=hz.k1;have k2:=hz.k2;have m0:wz.cell? ⟨mb,0,none⟩=some (.int .i64 1):=by rw [hz.m.cell 0 (by decide),HX0.out]
 have Hz:=zh hz;clear hz
 go_wp2_with fail
 go_still_tail 9,(by kernel_rfl)
 still_call ((zBz _ _).mono fun _ _ h=>⟨h.1,h.2.symm⟩)
 repeat still_step
 refine wpStill_nil ?_
 change wpList _ _ _ _ _ wz.drew
 obtain ⟨rest,hrest⟩:∃ rest,rest=ZS (zn 1 L inc y) 16++((if 0<G then [.coefs (zCF y 450 4) 3 inc,.coefs (zCF y 466 4) 3 inc] else [])++(if G=2 then ZX inc y 8 else []))++r:=⟨_,rfl⟩;have hz:Scene c F0 w0 wz.drew kb sb mb S X n (zG ds) F (.elem 11 0 (zl (decide (0<L))) 1:: .elem 12 0 G 2:: .elem 13 0 d 0:: .coefs (zCF y 434 16) 0 inc::rest):=by
  have:=Hz.out.drew HC.out;rw [hrest]
  simpa [zAB,zAg] using this
 clear k1 k2 m0 Hz;generalize wz.drew=wy at*;have k1:=hz.k1;have Hrest:=zh hrest;clear hrest
 go_wp2_with fail
 refine (hz.elem HC.out _ (fun h=>by
  have:=hcw.out h;exact congrArg zl (decide_eq_decide.2 (by omega)))).mono ?_
 rintro e wa ⟨rfl,F1,g1⟩;have q15:IntKind.i64.wrap (15*zl (decide (0<L)))=(L:Int):=by rcases hL with rfl|rfl<;>rfl
 have k1a:=g1.k1;have G1:=zh g1;clear hz g1 k1
 go_wp2_with fail
 refine (G1.out.elem HC.out _ (fun h=>by
  have:=hcw.out h;omega)).mono ?_
 rintro e wb ⟨rfl,F2,g2⟩;have q16:IntKind.i64.wrap (16*(G:Int))=16*(G:Int):=sw _ (by omega) (by omega);have qc:IntKind.i64.wrap ((L:Int)+16*(G:Int))=(L:Int)+16*(G:Int):=sw _ (by omega) (by omega);have zk:=g2.m.free 48;have ck:wb.cell? ⟨mb,48,none⟩=some (.int .i64 cb):=by rw [g2.m.cell 48 (by decide),HX48.out]
 have G2:=zh g2;clear g2 G1 k1a
 go_wp2_with fail
 have g3:=G2.out.setM HC.out 48 (.int .i64 (y 48));rw [zGc,Hy.out] at g3;clear G2 zk ck;generalize wb.setCell ⟨mb,48,none⟩ (.int .i64 ((L:Int)+16*(G:Int)))=wc at*;refine (zGM g3.m (k:=1) (cbp:=y 48) (by rw [zb (by decide),HX0.out]) (zA0 rfl)).mono ?_;rintro e w9 ⟨rfl,rfl⟩;rw [show zAg 1 (y 48)=true by simp [zAg]]
 go_wp2_with fail
 refine (zNG HC.out g3 H22.out (by rw [zb (by decide),HX49.out]) hp hd Hq.out hv (fun h=>by
  have:=Hw.out h 49 (by decide) (by decide);rw [HX49.out] at this;injection this)).mono ?_
 rintro e wd ⟨rfl,F3,g4⟩;rw [zGb] at g4;have h0':upd S 22 (.int .i64 (y 49)) 0=.int .i64 f:=by rw [ZN _ _ (by decide),H0.out]
 have h21':upd S 22 (.int .i64 (y 49)) 21=.int .i64 wide:=by rw [ZN _ _ (by decide),H21.out]
 clear g3;obtain ⟨S',hS'⟩:∃ S',S'=upd S 22 (.int .i64 (y 49)):=⟨_,rfl⟩;rw [←hS'] at g4 h0' h21';have HS':=zh hS';have hst:=g4.st h0' h21' Hb.out.1 Hb.out.2.1 Hb.out.2.2;have hnear:=zDd hst;have hl:=zGd hst Hds.out.1;have k0:=g4.k0;have k1:=g4.k1;have k2:=g4.k2;have m0:wd.cell? ⟨mb,0,none⟩=some (.int .i64 1):=by rw [g4.m.cell 0 (by decide),zb (by decide),HX0.out]
 have G4:=zh g4;have Hl:=zh hl;have Hn:=zh hnear;clear g4 hst hl hnear h0' h21' hS'
 go_wp2_with fail
 refine Hn.out.mono ?_;rintro e we ⟨rfl,nq,rfl⟩;have g5:=G4.out.drewN HC.out nq;have k1:=g5.k1;have k2:=g5.k2;have m0:(wd.drewN nq).cell? ⟨mb,0,none⟩=some (.int .i64 1):=m0;have G5:=zh g5;have hl:(zm S' (Zb f wide n)=.pointer none∧zBf ds (Zb f wide n)=0)∨∃ g k,zm S' (Zb f wide n)=.pointer (some ⟨g,k*46,none⟩)∧(wd.drewN nq).cell? ⟨g,k*46+1,none⟩=some (.int .i64 (zBf ds (Zb f wide n))):=Hl.out;clear g5 G4 Hl Hn k0;generalize wd.drewN nq=we at*;generalize zm S' (Zw wide n)=p2 at*;have hi2:zl (decide (0<zBf ds (Zb f wide n)))=inc:=Hinc.out.symm;clear Hinc;generalize zBf ds (Zb f wide n)=lc at*;generalize zm S' (Zb f wide n)=p1 at*
 rcases hl with ⟨rfl,rfl⟩|⟨g,k,rfl,ck⟩
 all_goals
  go_wp2_with fail
  refine (zBz _ _).mono ?_;rintro e w9 ⟨rfl,rfl⟩
  first|rw [hi2]|rw [show zl false=inc from hi2]
  go_wp2_with fail
  go_still_tail 12,(by kernel_rfl)
  change wpList _ _ _ _ _ we.drew
  have g6:=G5.out.drew HC.out
  try clear ck
  clear G5 k1 k2 m0;generalize we.drew=wf at*
  go_wp2_with fail
  refine (g6.coefs HC.out 16 (off:=434) (len:=16) (by decide) (by decide) HX.out Hw.out).mono ?_;rintro e wg ⟨rfl,F4,g7⟩;have G7:=zh g7;clear g6 g7;obtain ⟨r2,hr2⟩:∃ r2,r2=((if 0<G then [.coefs (zCF y 450 4) 3 inc,.coefs (zCF y 466 4) 3 inc] else [])++(if G=2 then ZX inc y 8 else []))++r:=⟨_,rfl⟩;have Hr2:=zh hr2;clear hr2;go_wp2
  go_loopw [99] (fun i wr=>∃ (k:Nat) (F1:List Nat),k≤16∧i=.int .i64 k∧Scene c F0 w0 wr kb sb mb S' (zAt (fun j=>((j=48∨j=49)∨(434≤j∧j<434+16))∨Zy 1 L k j) X y) n (zG ds) F1 (ZS (zn 1 L inc y) (16-k)++r2)) (fun i _=>16-(intOf i).toNat)
  case atStart=>
   refine ⟨0,F4,Nat.zero_le _,rfl,?_⟩;rw [ZH (U:=fun j=>(j=48∨j=49)∨(434≤j∧j<434+16)) X y (fun j=>⟨fun h=>h.elim id (fun h=>absurd h (zDq 1 L j)),.inl⟩),Hr2.out];have:=G7.out;rw [Hrest.out] at this
   simpa [List.append_assoc] using this
  case round=>
   obtain ⟨k,F1,hk,rfl,hs⟩:=hrel
   by_cases hlt:k<16
   ·have hki:(k:Int)<16:=by omega
    have hki2:(k:Int)<24:=by omega
    have k1:=hs.k1;have m0:wr.cell? ⟨mb,0,none⟩=some (.int .i64 1):=by rw [hs.m.cell 0 (by decide),zb (by unfold Zy;omega),HX0.out]
    have Hs:=zh hs;clear hs;have hcast:(L:Int)/2^(k/4)%2=((L/2^(k/4)%2:Nat):Int):=by push_cast;rfl
    rcases Nat.mod_two_eq_zero_or_one (L/2^(k/4)) with hb|hb
    ·have hbi:((L:Int)/2^(k/4)%2==0)=true:=by rw [hcast,hb];rfl
     clear hcast;go_wp2;refine ⟨⟨k+1,F1,by omega,by simp,?_⟩,by simp [intOf];omega⟩;rw [ZH (U:=fun j=>((j=48∨j=49)∨(434≤j∧j<434+16))∨Zy 1 L k j) X y (fun j=>by rw [zDr 1 hb])];have:=Hs.out;rw [zAc _ _ _ hlt hb] at this;exact this
    ·have hbi:((L:Int)/2^(k/4)%2==0)=false:=by rw [hcast,hb];rfl
     clear hcast
     go_wp2_with fail
     go_still_tail 13,(by kernel_rfl)
     change wpList _ _ _ _ _ wr.drew
     have hs:=Hs.out.drew HC.out;rw [zDo _ _ hlt hb] at hs;clear Hs k1 m0;generalize wr.drew=ws at*
     go_wp2_with fail
     rw [show 50+k*16+1=50+16*k+1 by omega];refine (hs.coefs HC.out 15 (off:=50+16*k+1) (len:=15) (by omega) (by decide) HX.out Hw.out).mono ?_;rintro e wt ⟨rfl,F2,g8⟩;clear hs;have G8:=zh g8;clear g8;go_wp2;refine ⟨⟨k+1,F2,by omega,by simp,?_⟩,by simp [intOf];omega⟩;rw [ZH (U:=fun j=>(((j=48∨j=49)∨(434≤j∧j<434+16))∨Zy 1 L k j)∨(50+16*k+1≤j∧j<50+16*k+1+15)) X y (fun j=>by rw [zKB hb];exact (or_assoc).symm)];exact G8.out
   ·obtain rfl:k=16:=by omega
    have Hs:Hid (Scene c F0 w0 wr kb sb mb S' (zAt (fun j=>((j=48∨j=49)∨(434≤j∧j<434+16))∨Zy 1 L 16 j) X y) n (zG ds) F1 r2):=zh hs;clear hs;have k1:=Hs.out.k1
    by_cases hG:0<G
    ·have hGi:(0:Int)<G:=by omega
     go_wp2_with fail
     go_still_tail 12,(by kernel_rfl)
     change wpList _ _ _ _ _ wr.drew
     have hs:=Hs.out.drew HC.out;rw [Hr2.out,if_pos hG] at hs;clear Hs k1;generalize wr.drew=ws at*
     go_wp2_with fail
     refine (hs.coefs HC.out 16 (off:=450) (len:=4) (by omega) (by decide) HX.out Hw.out).mono ?_;rintro e wt ⟨rfl,F2,g8⟩;have k1:=g8.k1;have G8:=zh g8;clear hs g8
     go_wp2_with fail
     go_still_tail 12,(by kernel_rfl)
     change wpList _ _ _ _ _ wt.drew
     have hs:=G8.out.drew HC.out;clear G8 k1;generalize wt.drew=wu at*
     go_wp2_with fail
     refine (hs.coefs HC.out 16 (off:=466) (len:=4) (by omega) (by decide) HX.out Hw.out).mono ?_;rintro e wv ⟨rfl,F3,g9⟩;have k1:=g9.k1;have g9:Scene c F0 w0 wv kb sb mb S' (zAt (fun j=>((((j=48∨j=49)∨(434≤j∧j<434+16))∨Zy 1 L 16 j)∨(450≤j∧j<450+4))∨(466≤j∧j<466+4)) X y) n (zG ds) F3 ((if G=2 then ZX inc y 8 else [])++r):=g9;clear hs;rw [ZH (U:=rT7 L G) X y (fun j=>zMY hG)] at g9;have G9:Hid (Scene c F0 w0 wv kb sb mb S' (zAt (rT7 L G) X y) n (zG ds) F3 (zAD G inc y 16++r)):=zh g9;clear g9;obtain h2|h2:G=1∨G=2:=by omega
     ·rw [show (G:Int)=1 by omega];go_wp2
      go_loopw [9] (fun i wr=>∃ (F1:List Nat),i=.int .i64 16∧Scene c F0 w0 wr kb sb mb S' (zAt (rT7 L G) X y) n (zG ds) F1 r) (fun i _=>24-(intOf i).toNat)
      case atStart=>
       have:=G9.out;rw [zu inc y (.inr (by omega))] at this;exact ⟨_,rfl,this⟩
      case round=>
       obtain ⟨F4,rfl,hs⟩:=hrel;have Hs:=zh hs;clear hs;go_wp2;go_end0;refine ⟨rfl,F4,?_⟩;have g:=Hs.out;rw [HS'.out,ZH (U:=zAa 1 L G) X y (fun j=>⟨fun h=>(zCK (k:=16) (by omega)).1 (.inl h),fun h=>((zCK (k:=16) (by omega)).2 h).elim id (fun h=>absurd h (Zo j))⟩)] at g;exact g
     ·rw [show (G:Int)=2 by omega];go_wp2
      go_loopw [9] (fun i wr=>∃ (q:Nat) (F1:List Nat),16≤q∧q≤24∧i=.int .i64 q∧Scene c F0 w0 wr kb sb mb S' (zAt (fun j=>rT7 L G j∨Zr q j) X y) n (zG ds) F1 (zAD G inc y q++r)) (fun i _=>24-(intOf i).toNat)
      case atStart=>
       refine ⟨16,F3,Nat.le_refl _,by decide,rfl,?_⟩;rw [ZH (U:=rT7 L G) X y (fun j=>⟨fun h=>h.elim id (fun h=>absurd h (Zo j)),.inl⟩)];exact G9.out
      case round=>
       obtain ⟨q,F4,hq16,hk,rfl,hs⟩:=hrel
       by_cases hlt:q<24
       ·have hki:(q:Int)<24:=by omega
        rw [zCU inc y h2 hlt] at hs;have k1:=hs.k1;have Hs:=zh hs;clear hs
        go_wp2_with fail
        go_still_tail 13,(by kernel_rfl)
        change wpList _ _ _ _ _ wr.drew
        have hs:=Hs.out.drew HC.out;clear Hs k1;generalize wr.drew=ws at*
        go_wp2_with fail
        rw [show 50+q*16+1=50+16*q+1 by omega];refine (hs.coefs HC.out 15 (off:=50+16*q+1) (len:=15) (by omega) (by decide) HX.out Hw.out).mono ?_;rintro e wt ⟨rfl,F2,g8⟩;clear hs;rw [←ZH (T:=fun j=>rT7 L G j∨Zr (q+1) j) X y (fun j=>by rw [zCW q j hq16];exact (or_assoc).symm)] at g8;have G8:Hid (Scene c F0 w0 wt kb sb mb S' (zAt (fun j=>rT7 L G j∨Zr (q+1) j) X y) n (zG ds) F2 (zAD G inc y (q+1)++r)):=zh g8;clear g8;go_wp2;exact ⟨⟨q+1,F2,by omega,by omega,by simp,G8.out⟩,by simp [intOf];omega⟩
       ·obtain rfl:q=24:=by omega
        rw [zu inc y (.inl rfl)] at hs;have Hs:Hid (Scene c F0 w0 wr kb sb mb S' (zAt (fun j=>rT7 L G j∨Zr 24 j) X y) n (zG ds) F4 r):=zh hs;clear hs;go_wp2;go_end0;refine ⟨rfl,F4,?_⟩;have g:=Hs.out;rw [HS'.out,ZH (U:=zAa 1 L G) X y (fun j=>zCK (by omega))] at g;exact g
    ·have hGi:¬ (0:Int)<G:=by omega
     have g9:=Hs.out;rw [Hr2.out,if_neg hG,ZH (U:=rT7 L G) X y (fun j=>zMZ hG)] at g9;have G9:Hid (Scene c F0 w0 wr kb sb mb S' (zAt (rT7 L G) X y) n (zG ds) F1 (zAD G inc y 16++r)):=zh g9;clear Hs g9;rw [show (G:Int)=0 by omega];go_wp2
     go_loopw [9] (fun i wr=>∃ (F1:List Nat),i=.int .i64 16∧Scene c F0 w0 wr kb sb mb S' (zAt (rT7 L G) X y) n (zG ds) F1 r) (fun i _=>24-(intOf i).toNat)
     case atStart=>
      have:=G9.out;rw [zu inc y (.inr (by omega))] at this;exact ⟨_,rfl,this⟩
     case round=>
      obtain ⟨F4,rfl,hs⟩:=hrel;have Hs:=zh hs;clear hs;go_wp2;go_end0;refine ⟨rfl,F4,?_⟩;have g:=Hs.out;rw [HS'.out,ZH (U:=zAa 1 L G) X y (fun j=>⟨fun h=>(zCK (k:=16) (by omega)).1 (.inl h),fun h=>((zCK (k:=16) (by omega)).2 h).elim id (fun h=>absurd h (Zo j))⟩)] at g;exact g
variable {c:Cod} {F0 F:List Nat} {w0 w:World} {kb sb mb n f wide:Nat} {S X:Nat→Value} {ds:List DoneP} {r:List Ask}
def zEa (L G j:Nat):Prop:=j=48∨(0<L+16*G∧j=49)
def zEA (kind:Int) (L G j:Nat):Prop:=(zEa L G j∨Zy kind L 16 j)∨(0<G∧((450≤j∧j<450+4)∨(466≤j∧j<466+4)))
theorem zIJ {kind:Int} {L G j:Nat} (hG:0<G):((zEa L G j∨Zy kind L 16 j)∨(450≤j∧j<450+4))∨(466≤j∧j<466+4)↔zEA kind L G j:=
 ⟨fun h=>h.elim (fun h=>h.elim .inl (fun h=> .inr ⟨hG,.inl h⟩)) (fun h=> .inr ⟨hG,.inr h⟩),fun h=>h.elim (fun h=> .inl (.inl h)) (fun h=>h.2.elim (fun h=> .inl (.inr h)) .inr)⟩
theorem zIK {kind:Int} {L G j:Nat} (hG:¬ 0<G):(zEa L G j∨Zy kind L 16 j)↔zEA kind L G j:=
 ⟨.inl,fun h=>h.elim id (fun h=>absurd h.1 hG)⟩
theorem zBF {kind:Int} {L G:Nat} (hne:kind≠1):zAg kind (L+16*G)=true↔0<L+16*G:=by
 simp [zAg,hne];omega
theorem zAK {kind:Int} (hne:kind≠1) {L G j k:Nat} (hk:(G=2∧k=24)∨(G≠2∧k=16)):zEA kind L G j∨Zr k j↔zAa kind L G j:=by
 have ht:=zBF (L:=L) (G:=G) hne;unfold zEA zEa zAa Zr Zy
 constructor
 ·rintro ((((h|h)|h)|h)|h)
  ·exact .inl h
  ·exact .inr (.inl ⟨ht.2 h.1,h.2⟩)
  ·exact .inr (.inr (.inr (.inl ⟨h.1,h.2.1,h.2.2.1,h.2.2.2⟩)))
  ·exact .inr (.inr (.inr (.inr (.inl h))))
  ·exact .inr (.inr (.inr (.inr (.inr ⟨by omega,h.1,by omega,h.2.2⟩))))
 ·rintro (h|h|h|h|h|h)
  ·exact .inl (.inl (.inl (.inl h)))
  ·exact .inl (.inl (.inl (.inr ⟨ht.1 h.1,h.2⟩)))
  ·exact absurd h.1 hne
  ·exact .inl (.inl (.inr ⟨h.1,h.2.1,h.2.2.1,h.2.2.2⟩))
  ·exact .inl (.inr h)
  ·exact .inr ⟨h.2.1,by omega,h.2.2.2⟩
theorem zGs {kind p v d inc cb:Int} {L G:Nat} {y:Nat→Int} (hc:c.Ok) (h:Scene c F0 w0 w kb sb mb S X n (zG ds) F (zAB kind L G d inc y++r))
 (h0:S 0=.int .i64 f) (h21:S 21=.int .i64 wide) (bf:f≤1000000) (bw:1≤wide∧wide≤1000000) (bn:n≤1000000) (h22:S 22=.int .i64 p)
 (hX0:X 0=.int .i64 kind) (hX48:X 48=.int .i64 cb) (hX49:X 49=.int .i64 v) (hX:∀ j,48≤j→j<482→∃ n,X j=.int .i64 n) (_hcb:0≤cb∧cb≤47)
 (hw:c.wr=true→∀ j,48≤j→j<482→X j=.int .i64 (y j)) (hne:kind≠1) (hL:L≤15) (hT:0<L+16*G) (hH:G≤2) (hy48:y 48=L+16*G)
 (hinc:inc=zl (decide (0<zBf ds (Zb f wide n)))) (hds:ds.length=n∧∀ d∈ds,0≤d.cbp∧d.cbp≤47) (hp:0≤p∧p≤51) (hd:-26≤d∧d≤25) (hq:y 49=(p+d+52)%52) (hv:0≤v∧v≤51):
 Calls Tryz.prog 73 #[.pointer (some ⟨kb,0,none⟩)] w fun e w'=>e=.returned (.tuple #[])∧∃ F',Scene c F0 w0 w' kb sb mb (upd S 22 (.int .i64 (y 49))) (zAt (zAa kind L G) X y) n (zG ds) F' r:=by
 have k2:=h.k2;have m48:w.cell? ⟨mb,48,none⟩=some (.int .i64 cb):=by rw [h.m.cell 48 (by decide),hX48]
 have mE:=hc.mE;have eE:=hc.eE;have mC:=hc.mC;have eC:=hc.eC;have hcw:Hid (c.wr=true→cb=L+16*G):=zh fun hh=>by
  have:=hw hh 48 (by decide) (by decide);rw [hX48] at this;injection this with _ this
  rw [this,hy48]
 have HS:=zh h;have HC:=zh hc;have H0:=zh h0;have H21:=zh h21;have H22:=zh h22;have HX0:=zh hX0;have HX48:=zh hX48;have HX49:=zh hX49;have HX:=zh hX;have Hw:=zh hw;have Hy:=zh hy48;have Hinc:=zh hinc;have Hds:=zh hds;have Hq:=zh hq;have Hb:=zh (And.intro bf (And.intro bw bn));clear h hc h0 h21 h22 hX0 hX48 hX49 hX hw hy48 hinc hds hq bf bw bn
 go_enter Tryz.func73,Tryz.ntmps73
 go_wp2
 go_quiet (fail)
 rename_i nq;have hz:=HS.out.drewN HC.out nq;clear HS k2 m48;generalize w.drewN nq=wz at*;have k1:=hz.k1;have k2:=hz.k2;have m0:wz.cell? ⟨mb,0,none⟩=some (.int .i64 kind):=by rw [hz.m.cell 0 (by decide),HX0.out]
 have Hz:=zh hz;clear hz;have hkb:(kind==1)=false:=by simpa using hne
 obtain ⟨rest,hrest⟩:∃ rest,rest=ZS (zn kind L inc y) 16++((if 0<G then [.coefs (zCF y 450 4) 3 inc,.coefs (zCF y 466 4) 3 inc] else [])++(if G=2 then ZX inc y 8 else []))++r:=⟨_,rfl⟩;have hz:Scene c F0 w0 wz kb sb mb S X n (zG ds) F (.elem 11 0 L 15:: .elem 12 0 G 2:: .elem 13 0 d 0::rest):=by
  have:=Hz.out;rw [hrest];have ht:=zBF (L:=L) (G:=G) hne;rw [zAB,if_pos (ht.2 hT),if_neg hne,if_neg hne] at this
  simpa using this
 have Hrest:=zh hrest;clear hrest Hz
 go_wp2_with fail
 refine (hz.elem HC.out _ (fun h=>by
  have:=hcw.out h;omega)).mono ?_
 rintro e wa ⟨rfl,F1,g1⟩;have k1a:=g1.k1;have G1:=zh g1;clear hz g1 k1 k2 m0
 go_wp2_with fail
 refine (G1.out.elem HC.out _ (fun h=>by
  have:=hcw.out h;omega)).mono ?_
 rintro e wb ⟨rfl,F2,g2⟩;have q16:IntKind.i64.wrap (16*(G:Int))=16*(G:Int):=sw _ (by omega) (by omega);have qc:IntKind.i64.wrap ((L:Int)+16*(G:Int))=(L:Int)+16*(G:Int):=sw _ (by omega) (by omega);have zk:=g2.m.free 48;have ck:wb.cell? ⟨mb,48,none⟩=some (.int .i64 cb):=by rw [g2.m.cell 48 (by decide),HX48.out]
 have G2:=zh g2;clear g2 G1 k1a
 go_wp2_with fail
 have g3:=G2.out.setM HC.out 48 (.int .i64 (y 48));rw [zGc,Hy.out] at g3;clear G2 zk ck;generalize wb.setCell ⟨mb,48,none⟩ (.int .i64 ((L:Int)+16*(G:Int)))=wc at*;refine (zGM g3.m (k:=kind) (cbp:=y 48) (by rw [zb (by decide),HX0.out]) (zA0 rfl)).mono ?_;rintro e w9 ⟨rfl,rfl⟩;rw [show zAg kind (y 48)=true by rw [Hy.out];exact (zBF hne).2 hT]
 go_wp2_with fail
 refine (zNG HC.out g3 H22.out (by rw [zb (by decide),HX49.out]) hp hd Hq.out hv (fun h=>by
  have:=Hw.out h 49 (by decide) (by decide);rw [HX49.out] at this;injection this)).mono ?_
 rintro e wd ⟨rfl,F3,g4⟩;rw [zGb,ZH (U:=zEa L G) X y (fun j=>by unfold zEa;simp only [hT,true_and])] at g4;have h0':upd S 22 (.int .i64 (y 49)) 0=.int .i64 f:=by rw [ZN _ _ (by decide),H0.out]
 have h21':upd S 22 (.int .i64 (y 49)) 21=.int .i64 wide:=by rw [ZN _ _ (by decide),H21.out]
 clear g3;obtain ⟨S',hS'⟩:∃ S',S'=upd S 22 (.int .i64 (y 49)):=⟨_,rfl⟩;rw [←hS'] at g4 h0' h21';have HS':=zh hS';have hst:=g4.st h0' h21' Hb.out.1 Hb.out.2.1 Hb.out.2.2;have hnear:=zDd hst;have hl:=zGd hst Hds.out.1;have k0:=g4.k0;have k1:=g4.k1;have k2:=g4.k2;have m0:wd.cell? ⟨mb,0,none⟩=some (.int .i64 kind):=by rw [g4.m.cell 0 (by decide),zb (by unfold zEa;omega),HX0.out]
 have G4:=zh g4;have Hl:=zh hl;have Hn:=zh hnear;clear g4 hst hl hnear h0' h21' hS'
 go_wp2_with fail
 refine Hn.out.mono ?_;rintro e we ⟨rfl,nq,rfl⟩;have g5:=G4.out.drewN HC.out nq;have k1:=g5.k1;have k2:=g5.k2;have m0:(wd.drewN nq).cell? ⟨mb,0,none⟩=some (.int .i64 kind):=m0;have G5:=zh g5;have hl:(zm S' (Zb f wide n)=.pointer none∧zBf ds (Zb f wide n)=0)∨∃ g k,zm S' (Zb f wide n)=.pointer (some ⟨g,k*46,none⟩)∧(wd.drewN nq).cell? ⟨g,k*46+1,none⟩=some (.int .i64 (zBf ds (Zb f wide n))):=Hl.out;clear g5 G4 Hl Hn k0;generalize wd.drewN nq=we at*;generalize zm S' (Zw wide n)=p2 at*;have hi2:zl (decide (0<zBf ds (Zb f wide n)))=inc:=Hinc.out.symm;clear Hinc;generalize zBf ds (Zb f wide n)=lc at*;generalize zm S' (Zb f wide n)=p1 at*
 rcases hl with ⟨rfl,rfl⟩|⟨g,k,rfl,ck⟩
 all_goals
  go_wp2_with fail
  refine (zBz _ _).mono ?_;rintro e w9 ⟨rfl,rfl⟩
  first|rw [hi2]|rw [show zl false=inc from hi2]
  try clear ck
  have G7:=G5;clear G5 k1 k2;obtain ⟨r2,hr2⟩:∃ r2,r2=((if 0<G then [.coefs (zCF y 450 4) 3 inc,.coefs (zCF y 466 4) 3 inc] else [])++(if G=2 then ZX inc y 8 else []))++r:=⟨_,rfl⟩;have Hr2:=zh hr2;clear hr2;go_wp2
  go_loopw [99] (fun i wr=>∃ (k:Nat) (F1:List Nat),k≤16∧i=.int .i64 k∧Scene c F0 w0 wr kb sb mb S' (zAt (fun j=>zEa L G j∨Zy kind L k j) X y) n (zG ds) F1 (ZS (zn kind L inc y) (16-k)++r2)) (fun i _=>16-(intOf i).toNat)
  case atStart=>
   refine ⟨0,F3,Nat.zero_le _,rfl,?_⟩;rw [ZH (U:=fun j=>zEa L G j) X y (fun j=>⟨fun h=>h.elim id (fun h=>absurd h (zDq kind L j)),.inl⟩),Hr2.out];have:=G7.out;rw [Hrest.out] at this
   simpa [List.append_assoc] using this
  case round=>
   obtain ⟨k,F1,hk,rfl,hs⟩:=hrel
   by_cases hlt:k<16
   ·have hki:(k:Int)<16:=by omega
    have hki2:(k:Int)<24:=by omega
    have k1:=hs.k1;have m0:wr.cell? ⟨mb,0,none⟩=some (.int .i64 kind):=by rw [hs.m.cell 0 (by decide),zb (by unfold zEa Zy;omega),HX0.out]
    have Hs:=zh hs;clear hs;have hcast:(L:Int)/2^(k/4)%2=((L/2^(k/4)%2:Nat):Int):=by push_cast;rfl
    rcases Nat.mod_two_eq_zero_or_one (L/2^(k/4)) with hb|hb
    ·have hbi:((L:Int)/2^(k/4)%2==0)=true:=by rw [hcast,hb];rfl
     clear hcast;go_wp2;refine ⟨⟨k+1,F1,by omega,by simp,?_⟩,by simp [intOf];omega⟩;rw [ZH (U:=fun j=>zEa L G j∨Zy kind L k j) X y (fun j=>by rw [zDr kind hb])];have:=Hs.out;rw [zAc _ _ _ hlt hb] at this;exact this
    ·have hbi:((L:Int)/2^(k/4)%2==0)=false:=by rw [hcast,hb];rfl
     clear hcast
     go_wp2_with fail
     go_still_tail 13,(by kernel_rfl)
     change wpList _ _ _ _ _ wr.drew
     have hs:=Hs.out.drew HC.out;rw [zBr hne _ _ hlt hb] at hs;clear Hs k1 m0;generalize wr.drew=ws at*
     go_wp2_with fail
     rw [show 50+k*16=50+16*k by omega];refine (hs.coefs HC.out 16 (off:=50+16*k) (len:=16) (by omega) (by decide) HX.out Hw.out).mono ?_;rintro e wt ⟨rfl,F2,g8⟩;clear hs;have G8:=zh g8;clear g8;go_wp2;refine ⟨⟨k+1,F2,by omega,by simp,?_⟩,by simp [intOf];omega⟩;rw [ZH (U:=fun j=>(zEa L G j∨Zy kind L k j)∨(50+16*k≤j∧j<50+16*k+16)) X y (fun j=>by rw [zHG hne hb];exact (or_assoc).symm)];exact G8.out
   ·obtain rfl:k=16:=by omega
    have Hs:Hid (Scene c F0 w0 wr kb sb mb S' (zAt (fun j=>zEa L G j∨Zy kind L 16 j) X y) n (zG ds) F1 r2):=zh hs;clear hs;have k1:=Hs.out.k1
    by_cases hG:0<G
    ·have hGi:(0:Int)<G:=by omega
     go_wp2_with fail
     go_still_tail 12,(by kernel_rfl)
     change wpList _ _ _ _ _ wr.drew
     have hs:=Hs.out.drew HC.out;rw [Hr2.out,if_pos hG] at hs;clear Hs k1;generalize wr.drew=ws at*
     go_wp2_with fail
     refine (hs.coefs HC.out 16 (off:=450) (len:=4) (by omega) (by decide) HX.out Hw.out).mono ?_;rintro e wt ⟨rfl,F2,g8⟩;have k1:=g8.k1;have G8:=zh g8;clear hs g8
     go_wp2_with fail
     go_still_tail 12,(by kernel_rfl)
     change wpList _ _ _ _ _ wt.drew
     have hs:=G8.out.drew HC.out;clear G8 k1;generalize wt.drew=wu at*
     go_wp2_with fail
     refine (hs.coefs HC.out 16 (off:=466) (len:=4) (by omega) (by decide) HX.out Hw.out).mono ?_;rintro e wv ⟨rfl,F3,g9⟩;have k1:=g9.k1;have g9:Scene c F0 w0 wv kb sb mb S' (zAt (fun j=>((zEa L G j∨Zy kind L 16 j)∨(450≤j∧j<450+4))∨(466≤j∧j<466+4)) X y) n (zG ds) F3 ((if G=2 then ZX inc y 8 else [])++r):=g9;clear hs;rw [ZH (U:=zEA kind L G) X y (fun j=>zIJ hG)] at g9;have G9:Hid (Scene c F0 w0 wv kb sb mb S' (zAt (zEA kind L G) X y) n (zG ds) F3 (zAD G inc y 16++r)):=zh g9;clear g9;obtain h2|h2:G=1∨G=2:=by omega
     ·rw [show (G:Int)=1 by omega];go_wp2
      go_loopw [9] (fun i wr=>∃ (F1:List Nat),i=.int .i64 16∧Scene c F0 w0 wr kb sb mb S' (zAt (zEA kind L G) X y) n (zG ds) F1 r) (fun i _=>24-(intOf i).toNat)
      case atStart=>
       have:=G9.out;rw [zu inc y (.inr (by omega))] at this;exact ⟨_,rfl,this⟩
      case round=>
       obtain ⟨F4,rfl,hs⟩:=hrel;have Hs:=zh hs;clear hs;go_wp2;go_end0;refine ⟨rfl,F4,?_⟩;have g:=Hs.out;rw [HS'.out,ZH (U:=zAa kind L G) X y (fun j=>⟨fun h=>(zAK hne (k:=16) (by omega)).1 (.inl h),fun h=>((zAK hne (k:=16) (by omega)).2 h).elim id (fun h=>absurd h (Zo j))⟩)] at g;exact g
     ·rw [show (G:Int)=2 by omega];go_wp2
      go_loopw [9] (fun i wr=>∃ (q:Nat) (F1:List Nat),16≤q∧q≤24∧i=.int .i64 q∧Scene c F0 w0 wr kb sb mb S' (zAt (fun j=>zEA kind L G j∨Zr q j) X y) n (zG ds) F1 (zAD G inc y q++r)) (fun i _=>24-(intOf i).toNat)
      case atStart=>
       refine ⟨16,F3,Nat.le_refl _,by decide,rfl,?_⟩;rw [ZH (U:=zEA kind L G) X y (fun j=>⟨fun h=>h.elim id (fun h=>absurd h (Zo j)),.inl⟩)];exact G9.out
      case round=>
       obtain ⟨q,F4,hq16,hk,rfl,hs⟩:=hrel
       by_cases hlt:q<24
       ·have hki:(q:Int)<24:=by omega
        rw [zCU inc y h2 hlt] at hs;have k1:=hs.k1;have Hs:=zh hs;clear hs
        go_wp2_with fail
        go_still_tail 13,(by kernel_rfl)
        change wpList _ _ _ _ _ wr.drew
        have hs:=Hs.out.drew HC.out;clear Hs k1;generalize wr.drew=ws at*
        go_wp2_with fail
        rw [show 50+q*16+1=50+16*q+1 by omega];refine (hs.coefs HC.out 15 (off:=50+16*q+1) (len:=15) (by omega) (by decide) HX.out Hw.out).mono ?_;rintro e wt ⟨rfl,F2,g8⟩;clear hs;rw [←ZH (T:=fun j=>zEA kind L G j∨Zr (q+1) j) X y (fun j=>by rw [zCW q j hq16];exact (or_assoc).symm)] at g8;have G8:Hid (Scene c F0 w0 wt kb sb mb S' (zAt (fun j=>zEA kind L G j∨Zr (q+1) j) X y) n (zG ds) F2 (zAD G inc y (q+1)++r)):=zh g8;clear g8;go_wp2;exact ⟨⟨q+1,F2,by omega,by omega,by simp,G8.out⟩,by simp [intOf];omega⟩
       ·obtain rfl:q=24:=by omega
        rw [zu inc y (.inl rfl)] at hs;have Hs:Hid (Scene c F0 w0 wr kb sb mb S' (zAt (fun j=>zEA kind L G j∨Zr 24 j) X y) n (zG ds) F4 r):=zh hs;clear hs;go_wp2;go_end0;refine ⟨rfl,F4,?_⟩;have g:=Hs.out;rw [HS'.out,ZH (U:=zAa kind L G) X y (fun j=>zAK hne (by omega))] at g;exact g
    ·have hGi:¬ (0:Int)<G:=by omega
     have g9:=Hs.out;rw [Hr2.out,if_neg hG,ZH (U:=zEA kind L G) X y (fun j=>zIK hG)] at g9;have G9:Hid (Scene c F0 w0 wr kb sb mb S' (zAt (zEA kind L G) X y) n (zG ds) F1 (zAD G inc y 16++r)):=zh g9;clear Hs g9;rw [show (G:Int)=0 by omega];go_wp2
     go_loopw [9] (fun i wr=>∃ (F1:List Nat),i=.int .i64 16∧Scene c F0 w0 wr kb sb mb S' (zAt (zEA kind L G) X y) n (zG ds) F1 r) (fun i _=>24-(intOf i).toNat)
     case atStart=>
      have:=G9.out;rw [zu inc y (.inr (by omega))] at this;exact ⟨_,rfl,this⟩
     case round=>
      obtain ⟨F4,rfl,hs⟩:=hrel;have Hs:=zh hs;clear hs;go_wp2;go_end0;refine ⟨rfl,F4,?_⟩;have g:=Hs.out;rw [HS'.out,ZH (U:=zAa kind L G) X y (fun j=>⟨fun h=>(zAK hne (k:=16) (by omega)).1 (.inl h),fun h=>((zAK hne (k:=16) (by omega)).2 h).elim id (fun h=>absurd h (Zo j))⟩)] at g;exact g
end Go.Proofs.YtcppbdlmcbjmeaaGreatDoor
