/- Lemmas that the law needs, part 39. -/
import Derived.Test.YtcppbdlmcbjmeaaGreatDoorK25
import Derived.Test.YtcppbdlmcbjmeaaGreatDoorK27
import Derived.Test.YtcppbdlmcbjmeaaGreatDoorK38
set_option maxHeartbeats 3200000
set_option maxRecDepth 100000
namespace Go.Proofs.YtcppbdlmcbjmeaaGreatDoor
open Go.RowKit
def dqp (p q:Int):Int:=if 25<q-p then q-p-52 else if q-p< -26 then q-p+52 else q-p
theorem zIb {p q:Int} (hp:0≤p∧p≤51) (hq:0≤q∧q≤51):-26≤dqp p q∧dqp p q≤25∧q=(p+dqp p q+52)%52:=by
 unfold dqp
 split
 ·omega
 ·split<;>omega
def zCr (y:Nat→Int):Nat:=(y 48).toNat%16
def zAI (y:Nat→Int):Nat:=(y 48).toNat/16
def zNA (ds:List DoneP) (f wide:Nat):Int:=zl (decide (0<zBf ds (Zb f wide ds.length)))
structure Sl where
 t:Int
 f:Nat
 wide:Nat
 a0:Int
 a1:Int
 sp:Bool
def Sl.off (s:Sl):Nat:=if s.t=0 then 1 else if s.t=1 then 0 else 2
def Sl.G (s:Sl) (ds:List DoneP) (y:Nat→Int):Nat→Int:=gOf y (zJW ds s.f s.wide ds.length s.sp)
def Sl.B (s:Sl) (ds:List DoneP) (y:Nat→Int) (l:Nat):Nat→Nat→Int×Int:=fun k first=>byN ds s.f s.wide ds.length (zFX (y 1) (s.G ds y) k) (y 1) l k first (s.G ds y (7*first+(1+l)))
def Sl.parts (s:Sl) (ds:List DoneP) (y:Nat→Int):Nat→Int:=fun i=>if y 0=4 then s.G ds y i else if y 0=5∨y 0=3 then zAv s.t ds s.f s.wide ds.length s.sp (i%7) else y (20+i)
def Sl.d (s:Sl) (ds:List DoneP) (y:Nat→Int):DoneP:=⟨y 0,y 48,fun i=>y (2+i),s.parts ds y⟩
def Sl.out (s:Sl) (ds:List DoneP) (y:Nat→Int):Nat→Int:=fun j=>if 20≤j∧j<48 then s.parts ds y (j-20) else y j
def zHW (s:Sl) (ds:List DoneP) (y:Nat→Int):List Ask:=if y 0=1 then [.elem 4 0 (y 18) 3] else if y 0=0 then ZS (fun b=>zAd (zAs ds s.f s.wide ds.length (fun i=>y (2+i)) b) (y (2+b))) 16 else if y 0=4 then zE1 s.t (y 1) s.a0 s.a1 (s.B ds y 0) (s.B ds y 1) (fun p=>y (20+7*p)) (s.G ds y) else []
def zC4 (s:Sl) (ds:List DoneP) (p:Int) (y ps:Nat→Int):List Ask:=if y 0=2 then zCw ((List.range 384).map ps) else zHW s ds y++((if za (y 0)=true then [.elem 5 0 (y 19) 3] else [])++zAB (y 0) (zCr y) (zAI y) (dqp p (y 49)) (zNA ds s.f s.wide) y)
def zCq (s:Sl) (ds:List DoneP) (p:Int) (y ps:Nat→Int):List Ask:=
 (if s.t=2 then [] else [.elem 0 (zAH (fun k=>k != 3) ds s.f s.wide ds.length) (if y 0=3 then 1 else 0) 1])++
  (if y 0=3 then [] else .elem 1 (zAH za ds s.f s.wide ds.length) (zF5 (y 0) (kAll.drop s.off) 0:Nat) ((5-s.off:Nat)-1)::zC4 s ds p y ps)
def zDn (p:Int) (y:Nat→Int):Int:=if y 0≠2∧zAg (y 0) (y 48)=true then y 49 else p
def zLs (q:Nat→Int):Prop:=∀ k,k<4→∀ j,3≤j→j<7→vb (q (7*k+j))
structure Behind (ds:List DoneP) (p:Int):Prop where
 qp:0≤p∧p≤51
 cbp:∀ d∈ds,0≤d.cbp∧d.cbp≤47
 modes:∀ d∈ds,d.kind=0→∀ i,i<16→0≤d.modes i∧d.modes i≤8
 vec:∀ d∈ds,zLs d.parts
structure MbOk (s:Sl) (y ps:Nat→Int):Prop where
 ty:s.t=0∨s.t=1∨s.t=2
 body:zAF y (if y 0=2 then 384 else 0) s.t
 parts:y 0≠4→zEz y
 inter:y 0=4→zBi s.t s.a0 s.a1 y
 pcm:∀ i,i<384→0≤ps i∧ps i≤255
theorem MbOk.kind {s:Sl} {y ps:Nat→Int} (h:MbOk s y ps):((y 0=3∨y 0=4)∧(s.t=0∨s.t=1))∨(y 0=5∧s.t=1)∨y 0=0∨y 0=1∨y 0=2:=h.body.1
theorem MbOk.cbp {s:Sl} {y ps:Nat→Int} (h:MbOk s y ps):0≤y 48∧y 48≤47∧y 48=zCr y+16*zAI y∧zCr y≤15∧zAI y≤2:=by
 obtain ⟨L,G,h1,h2,h3,-⟩:=h.body.2.2.2.1;unfold zCr zAI;omega
theorem MbOk.coefs {s:Sl} {y ps:Nat→Int} (h:MbOk s y ps):(y 0=1→zCr y=0∨zCr y=15)∧(∀ b,b<24→zAJ y (zCr y) (zAI y) b)∧∀ k,k<3→zDB y (zAI y) k:=
 (zJ h.cbp.2.2.2.1 h.cbp.2.2.2.2 h.cbp.2.2.1).1 h.body.2.2.2.1
theorem MbOk.range {s:Sl} {y ps:Nat→Int} (h:MbOk s y ps) {j:Nat} (h0:50≤j) (h1:j<482):-32767≤y j∧y j≤32767:=by
 by_cases hj:j<434
 ·have:=(h.coefs.2.1 ((j-50)/16) (by omega)).2.2 ((j-50)%16) (by omega)
  rwa [show 50+(j-50)/16*16+(j-50)%16=j by omega] at this
 ·have:=(h.coefs.2.2 ((j-434)/16) (by omega)).2.2 ((j-434)%16) (by omega)
  rwa [show 434+(j-434)/16*16+(j-434)%16=j by omega] at this
theorem MbOk.rangeB {s:Sl} {y ps:Nat→Int} (h:MbOk s y ps) {off len:Nat} (h0:50≤off) (h1:off+len≤482):rangeB (zCF y off len)=true:=
 zG4 (fun i hi=>by
  rw [zAG] at hi;rw [zH9 y off len i hi];exact h.range (by omega) (by omega))
theorem zHi {l t:Int} (hl:-1≤l∧l≤8) (ht:-1≤t∧t≤8):0≤zCt l t∧zCt l t≤8:=by
 unfold zCt
 split<;>omega
theorem zIS {ds:List DoneP} {p:Int} (h:Behind ds p) (o:Option Nat) (i:Nat) (hi:i<16):-1≤zCx ds o i∧zCx ds o i≤8:=by
 unfold zCx
 rcases o with _|k
 ·dsimp only;omega
 ·dsimp only
  rcases hd:ds[k]? with _|d
  ·dsimp only;omega
  ·dsimp only
   by_cases h0:d.kind=0
   ·rw [if_pos h0];have:=h.modes d (List.mem_of_getElem? hd) h0 i hi;omega
   ·rw [if_neg h0];omega
theorem zD7 {ds:List DoneP} {p:Int} (h:Behind ds p) {f wide n:Nat} {md:Nat→Int} (hm:∀ i,i<16→0≤md i∧md i≤8) (i:Nat) (hi:i<16):0≤zAs ds f wide n md i∧zAs ds f wide n md i≤8:=by
 have hx:=zNj i;have hy:=zNi i hi;unfold zAs
 apply zHi
 ·unfold zH3
  split
  ·exact zIS h _ _ (zD3 3 (bY i) (by decide) hy)
  ·have:=hm (zHS (bX i-1) (bY i)) (zD3 _ _ (by omega) hy);omega
 ·unfold zML
  split
  ·exact zIS h _ _ (zD3 (bX i) 3 hx (by decide))
  ·have:=hm (zHS (bX i) (bY i-1)) (zD3 _ _ hx (by omega));omega
theorem MbOk.qp {s:Sl} {y ps:Nat→Int} (h:MbOk s y ps):0≤y 49∧y 49≤51:=by
 have:=h.body.2.2.1;unfold zMa at this
 split at this
 ·exact this
 ·omega
theorem MbOk.rest0 {s:Sl} {y ps:Nat→Int} (h:MbOk s y ps) {j:Nat} (hj:j<482) (h48:48≤j) (hn:¬ zAa (y 0) (zCr y) (zAI y) j):y j=0:=by
 have hco:=h.coefs;unfold zAa at hn
 by_cases h9:j=49
 ·subst h9;have hq:=h.body.2.2.1;unfold zMa at hq;rw [h.cbp.2.2.1] at hq
  by_cases ht:zAg (y 0) ((zCr y:Int)+16*(zAI y:Int))=true
  ·exact absurd (.inr (.inl ⟨ht,rfl⟩)) hn
  ·rw [if_neg ht] at hq;exact hq
 ·by_cases h434:j<434
  ·have hb:=hco.2.1 ((j-50)/16) (by omega);have e:50+(j-50)/16*16+(j-50)%16=j:=by omega
   by_cases hh:zBK (zCr y) (zAI y) ((j-50)/16)
   ·have h00:(j-50)%16=0∧(y 0=1∨16≤(j-50)/16):=by
     unfold zBK at hh
     rcases hh with ⟨h1,h2⟩|⟨h1,h2⟩
     ·have h3:¬ (50≤j∧j<306∧zCr y/2^((j-50)/16/4)%2=1∧(y 0=1→(j-50)%16≠0)):=fun h=>hn (.inr (.inr (.inr (.inl h))))
      by_cases hm:(j-50)%16=0
      ·refine ⟨hm,?_⟩
       by_cases h1':y 0=1
       ·exact .inl h1'
       ·exact absurd ⟨by omega,by omega,h2,fun h=>absurd h h1'⟩ h3
      ·exact absurd ⟨by omega,by omega,h2,fun _=>hm⟩ h3
     ·have h3:¬ (zAI y=2∧306≤j∧j<434∧(j-50)%16≠0):=fun h=>hn (.inr (.inr (.inr (.inr (.inr h)))))
      exact ⟨by omega,.inr h1⟩
    have:=hb.2.1 h00.2;rw [←e,h00.1,Nat.add_zero];exact this
   ·have:=hb.1 hh ((j-50)%16) (by omega);rw [e] at this;exact this
  ·have hd:=hco.2.2 ((j-434)/16) (by omega);have e:434+(j-434)/16*16+(j-434)%16=j:=by omega
   by_cases hh:zDu y (zAI y) ((j-434)/16)
   ·unfold zDu at hh
    rcases hh with ⟨h1,h2⟩|⟨h1,h2⟩
    ·exact absurd (.inr (.inr (.inl ⟨h2,by omega,by omega⟩))) hn
    ·have h4:4≤(j-434)%16:=by
      apply Classical.byContradiction
      intro h5;exact hn (.inr (.inr (.inr (.inr (.inl ⟨h2,by omega⟩)))))
     have:=hd.2.1 h1 ((j-434)%16-4) (by omega);rw [show 434+(j-434)/16*16+4+((j-434)%16-4)=j by omega] at this;exact this
   ·have:=hd.1 hh ((j-434)%16) (by omega);rw [e] at this;exact this
theorem zI7 {y:Nat→Int} (h:zAX 16 (fun i=>y (2+i)) (fun _=>0)=true) {j:Nat} (h2:2≤j) (h18:j<18):y j=0:=by
 have:=zAy.1 h (j-2) (by omega)
 rwa [show 2+(j-2)=j by omega] at this
theorem MbOk.lo {s:Sl} {y ps:Nat→Int} (h:MbOk s y ps):∀ j,j<48→j≠0→j≠19→¬ ((y 0=4∧(j=1∨20≤j))∨(y 0=0∧2≤j∧j<18)∨(y 0=1∧j=18))→y j=0:=by
 intro j hj h0 h19 hn;have hi:=h.body.2.1;unfold zE9 at hi
 by_cases h20:20≤j
 ·have:=h.parts (fun e=>hn (.inl ⟨e,.inr h20⟩)) (j-20) (by omega)
  rwa [show 20+(j-20)=j by omega] at this
 ·by_cases h1:j=1
  ·subst h1;exact hi.2.2.2.1.elim (fun e=>absurd (.inl ⟨e,.inl rfl⟩) hn) id
  ·by_cases h18:j=18
   ·subst h18;exact hi.2.2.1.elim (fun e=>absurd (.inr (.inr ⟨e,rfl⟩)) hn) id
   ·exact hi.1.elim (fun e=>absurd (.inr (.inl ⟨e,by omega,by omega⟩)) hn) (fun e=>zI7 e (by omega) (by omega))
theorem MbOk.zero2 {s:Sl} {y ps:Nat→Int} (h:MbOk s y ps) (hk:y 0=2∨y 0=3):∀ j,j<482→j≠0→y j=0:=by
 intro j hj hn;have hi:=h.body.2.1;have hp:y 48=0:=hk.elim (fun e=>(h.body.2.2.2.2.2.2.1 e).2) h.body.2.2.2.2.2.2.2;unfold zE9 at hi
 by_cases h48:48≤j
 ·by_cases e48:j=48
  ·rw [e48];exact hp
  ·have hL:zCr y=0∧zAI y=0:=by have:=h.cbp;omega
   refine h.rest0 hj h48 (fun hr=>?_);unfold zAa at hr;rw [hL.1,hL.2] at hr;have ht:zAg (y 0) (((0:Nat):Int)+16*((0:Nat):Int))=false:=by rcases hk with e|e<;>rw [e]<;>rfl
   rw [ht] at hr
   rcases hr with h|h|h|h|h|h
   ·exact e48 h
   ·cases h.1
   ·omega
   ·rw [Nat.zero_div] at h;omega
   ·omega
   ·omega
 ·by_cases h19:j=19
  ·subst h19
   rcases hi.2.1 with h|h|h
   ·omega
   ·omega
   ·exact h
  ·exact h.lo j (by omega) hn h19 (by omega)
theorem vb0:vb 0:=by unfold vb;decide
theorem zDj {r0 r1 r2 x0 x1 x2 ref f:Int} (h0:vb x0) (h1:vb x1) (h2:vb x2):vb (zBN r0 r1 r2 x0 x1 x2 ref f):=by
 have hc:∀ r x,vb x→vb (zFY r x):=fun r x h=>by unfold zFY;split;exact vb0;exact h
 have k0:=hc r0 x0 h0;have k1:=hc r1 x1 h1;have k2:=hc r2 x2 h2;unfold zBN;generalize zFY r0 x0=X0 at*;generalize zFY r1 x1=X1 at*;generalize zFY r2 x2=X2 at*;have hm:vb (zM8 X0 X1 X2):=by unfold vb zM8 at*;omega
 unfold zFg
 repeat' split
 all_goals assumption
theorem zMb {list k:Nat} {o:Option (Int×(Nat→Int))} (hl:list<2) (hk:k<4) (h:∀ kd ps,o=some (kd,ps)→zLs ps):vb (zFh list k o).2.1∧vb (zFh list k o).2.2:=by
 rcases o with _|⟨kd,ps⟩
 ·exact ⟨vb0,vb0⟩
 ·have hv:=h kd ps rfl;unfold zFh;dsimp only
  split
  ·exact ⟨vb0,vb0⟩
  ·split
   ·have h1:=hv k hk (3+2*list) (by omega) (by omega);have h2:=hv k hk (4+2*list) (by omega) (by omega);rw [←Nat.add_assoc] at h1 h2;exact ⟨h1,h2⟩
   ·exact ⟨vb0,vb0⟩
theorem zHv {ds:List DoneP} {p:Int} (h:Behind ds p) {f wide n:Nat} {z:Nat→Int} (hz:zLs (fun i=>z (18+i))) {list:Nat} (hl:list<2) (x y:Int):vb (zBd ds f wide n z list x y).2.1∧vb (zBd ds f wide n z list x y).2.2:=by
 unfold zBd
 split
 ·exact ⟨vb0,vb0⟩
 ·refine zMb hl (by omega) (fun kd ps e=>?_);unfold zM6 at e
  split at e
  ·rename_i k _
   rcases hd:ds[k]? with _|d
   ·rw [hd] at e;cases e
   ·rw [hd] at e;injection e with e
    injection e with _ e
    rw [←e];exact h.vec d (List.mem_of_getElem? hd)
  ·split at e
   ·injection e with e
    injection e with _ e
    rw [←e];exact hz
   ·cases e
theorem zLD {ds:List DoneP} {p:Int} (h:Behind ds p) {f wide n:Nat} {z:Nat→Int} (hz:zLs (fun i=>z (18+i))) {list:Nat} (hl:list<2) (first wd:Nat):
 (vb (nbA ds f wide n z list first).2.1∧vb (nbA ds f wide n z list first).2.2)∧(vb (nbB ds f wide n z list first).2.1∧vb (nbB ds f wide n z list first).2.2)∧vb (nbC ds f wide n z list first wd).2.1∧vb (nbC ds f wide n z list first wd).2.2:=by
 refine ⟨zHv h hz hl _ _,zHv h hz hl _ _,?_⟩;unfold nbC orN
 split<;>exact zHv h hz hl _ _
theorem zN3 {ds:List DoneP} {p:Int} (h:Behind ds p) {f wide n:Nat} {z:Nat→Int} (hz:zLs (fun i=>z (18+i))) {list:Nat} (hl:list<2) (shape:Int) (k first:Nat) (ref:Int):vb (byN ds f wide n z shape list k first ref).1∧vb (byN ds f wide n z shape list k first ref).2:=by
 have hn:=zLD h hz hl first (zCz shape).toNat (f:=f) (wide:=wide) (n:=n)
 exact ⟨zDj hn.1.1 hn.2.1.1 hn.2.2.1,zDj hn.1.2 hn.2.1.2 hn.2.2.2⟩
theorem zJX (k:Int):zLs (fun i=>zOf k (18+i)):=fun a _ j _ _=>by
 unfold zOf;dsimp only;rw [if_neg (by omega)];exact vb0
theorem zL1 {a b c:Int×Int×Int} (ha:vb a.2.1∧vb a.2.2) (hb:vb b.2.1∧vb b.2.2) (hc:vb c.2.1∧vb c.2.2):vb (mvT a b c).1∧vb (mvT a b c).2:=by
 unfold mvT
 by_cases h:0≤zLv a b c
 ·rw [if_pos h];dsimp only;exact ⟨zDj ha.1 hb.1 hc.1,zDj ha.2 hb.2 hc.2⟩
 ·rw [if_neg h];exact ⟨vb0,vb0⟩
theorem zGZ {d r0 r1 x0 y0 x1 y1:Int} (h0:vb x0) (h1:vb y0) (h2:vb x1) (h3:vb y1):∀ j,3≤j→j<7→vb (zHZ d r0 r1 x0 y0 x1 y1 j):=fun j a b=>by
 obtain rfl|rfl|rfl|rfl:j=3∨j=4∨j=5∨j=6:=by omega
 all_goals assumption
theorem zIZ {ds:List DoneP} {p:Int} (h:Behind ds p) (t:Int) (f wide n:Nat) (sp:Bool):∀ j,3≤j→j<7→vb (zAv t ds f wide n sp j)∧vb (zJW ds f wide n sp j):=fun j a b=>by
 have hd:vb (zJW ds f wide n sp j):=by
  have h0:=zLD h (zJX 5) (show 0<2 by decide) 0 2 (f:=f) (wide:=wide) (n:=n);have h1:=zLD h (zJX 5) (show 1<2 by decide) 0 2 (f:=f) (wide:=wide) (n:=n);have m0:=zL1 h0.1 h0.2.1 h0.2.2;have m1:=zL1 h1.1 h1.2.1 h1.2.2;unfold zJW zND zIr
  split
  ·exact zGZ vb0 vb0 vb0 vb0 j a b
  ·split
   ·exact zGZ vb0 vb0 vb0 vb0 j a b
   ·split
    ·exact zGZ m0.1 m0.2 m1.1 m1.2 j a b
    ·split<;>exact zGZ m0.1 m0.2 m1.1 m1.2 j a b
 refine ⟨?_,hd⟩;unfold zAv
 split
 ·have h0:=zLD h (zJX 3) (show 0<2 by decide) 0 2 (f:=f) (wide:=wide) (n:=n);have hs:∀ a b r0 r1 x0 y0 x1 y1 p,vb p→vb (zB1 a b r0 r1 x0 y0 x1 y1 p):=fun _ _ _ _ _ _ _ _ _ hp=>by
   unfold zB1
   split
   ·exact vb0
   ·exact hp
  unfold zJl zK6 zJk;dsimp only;rw [if_neg (by omega)]
  split
  ·exact hs _ _ _ _ _ _ _ _ _ (zDj h0.1.1 h0.2.1.1 h0.2.2.1)
  ·split
   ·exact hs _ _ _ _ _ _ _ _ _ (zDj h0.1.2 h0.2.1.2 h0.2.2.2)
   ·exact vb0
 ·exact hd
theorem zIV {t a0 a1:Int} {y:Nat→Int} (h:zBi t a0 a1 y):∀ k,k<4→∀ j,3≤j→j<7→vb (y (20+(7*k+j))):=fun k hk j a b=>by
 rcases h.2.2 k hk with h1|h1
 ·rw [h1.2.2.2 j (by omega) b];exact vb0
 ·have h0:=h1.1.mv 0 (by decide);have h2:=h1.1.mv 1 (by decide);obtain rfl|rfl|rfl|rfl:j=3∨j=4∨j=5∨j=6:=by omega
  ·exact h0.1
  ·exact h0.2
  ·exact h2.1
  ·exact h2.2
theorem zNt {s:Sl} {ds:List DoneP} {p:Int} {y:Nat→Int} (h:Behind ds p) (hy:zBi s.t s.a0 s.a1 y):zLs (s.G ds y):=fun k hk j a b=>by
 unfold Sl.G;rw [zCV _ _ _ _ b]
 split
 ·exact (zIZ h s.t _ _ _ _ j a b).2
 ·exact zIV hy k hk j a b
theorem zOB {s:Sl} {ds:List DoneP} {p:Int} {y:Nat→Int} (h:Behind ds p) (hy:zBi s.t s.a0 s.a1 y) {l:Nat} (hl:l<2) (k first:Nat):vb (s.B ds y l k first).1∧vb (s.B ds y l k first).2:=by
 refine zN3 h (fun q hq j a b=>?_) hl _ _ _ _;unfold zFX;dsimp only;rw [if_neg (by omega),if_neg (by omega),if_pos (by omega),show 18+(7*q+j)-18=7*q+j by omega];exact zNt h hy q hq j a b
theorem zLB {s:Sl} {ds:List DoneP} {p:Int} {y ps:Nat→Int} (h:Behind ds p) (hy:MbOk s y ps):zLs (s.parts ds y):=fun k hk j a b=>by
 unfold Sl.parts
 split
 ·rename_i h4;exact zNt h (hy.inter h4) k hk j a b
 ·rename_i h4
  split
  ·rw [show (7*k+j)%7=j by omega];exact (zIZ h _ _ _ _ _ j a b).1
  ·rw [hy.parts h4 (7*k+j) (by omega)];exact vb0
theorem Behind.next {s:Sl} {ds:List DoneP} {p:Int} {y ps:Nat→Int} (h:Behind ds p) (hy:MbOk s y ps):Behind (ds++[s.d ds y]) (zDn p y) where
 qp:=by
  unfold zDn
  split
  ·exact hy.qp
  ·exact h.qp
 cbp:=fun d hd=>by
  rcases List.mem_append.1 hd with hd|hd
  ·exact h.cbp d hd
  ·obtain rfl:d=s.d ds y:=by simpa using hd
   exact ⟨hy.cbp.1,hy.cbp.2.1⟩
 modes:=fun d hd h0 i hi=>by
  rcases List.mem_append.1 hd with hd|hd
  ·exact h.modes d hd h0 i hi
  ·obtain rfl:d=s.d ds y:=by simpa using hd
   exact (hy.body.2.2.2.2.1 h0).1 i hi
 vec:=fun d hd=>by
  rcases List.mem_append.1 hd with hd|hd
  ·exact h.vec d hd
  ·obtain rfl:d=s.d ds y:=by simpa using hd
   exact zLB h hy
theorem zAR {l m:List Ask} (h:∀ a∈l,a.fine) (k:∀ a∈m,a.fine):∀ a∈l++m,a.fine:=fun a ha=>(List.mem_append.1 ha).elim (h a) (k a)
theorem zX {x:Ask} {m:List Ask} (h:x.fine) (k:∀ a∈m,a.fine):∀ a∈x::m,a.fine:=fun a ha=>(List.mem_cons.1 ha).elim (fun e=>e▸h) (k a)
theorem ZO:∀ a∈([]:List Ask),a.fine:=fun a ha=>by cases ha
theorem zDx {g:Nat→List Ask} (h:∀ b,b<16→∀ a∈g b,a.fine):∀ j,j≤16→∀ a∈ZS g j,a.fine
 |0,_=>ZO
 |j+1,hj=>zAR (h (16-(j+1)) (by omega)) (zDx h j (by omega))
theorem Zx {el inc v most:Int} (hs:zBR el=true) (hk:zK el=2) (hm:1≤most∧most≤63) (hv:0≤v∧v≤most) (hi:0≤inc∧inc≤7):(Ask.elem el inc v most).fine:=
 ⟨.inr (.inr (.inl hs)),by unfold zAx;rw [hk];simp [zy];omega,hi.1,hi.2⟩
theorem zBC {cs:List Int} {cat inc:Int} (hl:cs.length=4∨cs.length=15∨cs.length=16) (hr:rangeB cs=true) (hc:0≤cat∧cat≤3) (hi:0≤inc∧inc≤1):(Ask.coefs cs cat inc).fine:=by
 show zA1 cs cat inc=true
 unfold zA1 zGr zEp;rw [hr];simp;omega
theorem zJD (ds:List DoneP) (f wide:Nat):0≤zNA ds f wide∧zNA ds f wide≤1:=zBL _
theorem zFC {s:Sl} {y ps:Nat→Int} (h:MbOk s y ps) {inc:Int} (hi:0≤inc∧inc≤1):∀ j,j≤8→∀ a∈ZX inc y j,a.fine
 |0,_=>ZO
 |j+1,hj=>zX (zBC (by rw [zAG];decide) (h.rangeB (by omega) (by omega)) (by decide) hi) (zFC h hi j (by omega))
theorem zKU {s:Sl} {y ps:Nat→Int} (h:MbOk s y ps) {kind d inc:Int} (hd:-26≤d∧d≤25) (hi:0≤inc∧inc≤1):∀ a∈zAB kind (zCr y) (zAI y) d inc y,a.fine:=by
 have hc:=h.cbp;unfold zAB;refine zX ?_ (zX (Zx rfl rfl (by decide) (by omega) (by decide)) (zAR ?_ (zAR ?_ (zAR ?_ (zAR ?_ ?_)))))
 ·split
  ·exact Zx rfl rfl (by decide) (zBL _) (by decide)
  ·exact Zx rfl rfl (by decide) (by omega) (by decide)
 ·split
  ·refine zX ⟨.inr (.inr (.inr rfl)),?_,by decide,by decide⟩ ZO;unfold zAx;rw [show zK 13=3 from rfl];simp [zy];omega
  ·exact ZO
 ·split
  ·exact zX (zBC (by rw [zAG];decide) (h.rangeB (by omega) (by omega)) (by decide) hi) ZO
  ·exact ZO
 ·refine zDx (fun b hb=>?_) 16 (Nat.le_refl _);unfold zn
  split
  ·exact ZO
  ·split
   ·exact zX (zBC (by rw [zAG];decide) (h.rangeB (by omega) (by omega)) (by decide) hi) ZO
   ·exact zX (zBC (by rw [zAG];decide) (h.rangeB (by omega) (by omega)) (by decide) hi) ZO
 ·split
  ·exact zX (zBC (by rw [zAG];decide) (h.rangeB (by omega) (by omega)) (by decide) hi) (zX (zBC (by rw [zAG];decide) (h.rangeB (by omega) (by omega)) (by decide) hi) ZO)
  ·exact ZO
 ·split
  ·exact zFC h hi 8 (Nat.le_refl _)
  ·exact ZO
theorem zKV {u own:Int} (hu:0≤u∧u≤8) (ho:0≤own∧own≤8):∀ a∈zAd u own,a.fine:=by
 unfold zAd;refine zX ⟨.inr (.inl rfl),?_,by decide,by decide⟩ ?_
 ·unfold zAx;rw [show zK 2=1 from rfl]
  cases (own==u)<;>rfl
 ·split
  ·exact ZO
  ·rename_i hne;refine zX (Zx rfl rfl (by decide) ?_ (by decide)) ZO
   by_cases hlt:u<own
   ·rw [decide_eq_true hlt]
    show 0≤own-1∧own-1≤7
    omega
   ·rw [decide_eq_false hlt]
    show 0≤own-0∧own-0≤7
    omega
theorem zIa {el v:Int} (he:el=9∨el=10) (hv:-32767≤v∧v≤32767):(Ask.elem el 0 v 0).fine:=by
 have h3:zAx el v 0=0:=by
  unfold zAx;rw [show zK el=3 by rcases he with rfl|rfl<;>rfl];simp [zy];omega
 exact ⟨.inr (.inr (.inr (by rcases he with rfl|rfl<;>rfl))),h3,by decide,by decide⟩
theorem zKW {most:Int} {D:Nat→Int} (hm:1≤most∧most≤63) (us:List (List Nat)) (h:∀ u∈us,0≤D (hd0 u)∧D (hd0 u)≤most):∀ a∈zBj most D us,a.fine:=fun a ha=>by
 obtain ⟨u,hu,rfl⟩:=List.mem_map.1 ha;exact Zx rfl rfl hm (h u hu) (by decide)
theorem zFB {most:Int} {l:Nat} {D G:Nat→Int} (hm:most≤63):∀ us:List (List Nat),(∀ u∈us,Zv l (D (hd0 u))=true→0≤G (7*hd0 u+(1+l))∧G (7*hd0 u+(1+l))≤most)→∀ a∈ZM most l D G us,a.fine
 |[],_=>ZO
 |u::us,h=>zAR (by
  split
  ·rename_i hh;exact zX (Zx rfl rfl ⟨by omega,hm⟩ (h u (by simp) hh.1) (by decide)) ZO
  ·exact ZO) (zFB hm us (fun v hv=>h v (by simp [hv])))
theorem zFA {B:Nat→Nat→Int×Int} {l:Nat} {D G:Nat→Int}:∀ (us:List (List Nat)) (k:Nat),(∀ u∈us,∀ k,Zv l (D (hd0 u))=true→(vb (G (7*hd0 u+(3+2*l)))∧vb (G (7*hd0 u+(4+2*l))))∧vb (B k (hd0 u)).1∧vb (B k (hd0 u)).2)→∀ a∈ZI B l D G us k,a.fine
 |[],_,_=>ZO
 |u::us,k,h=>zAR (by
  split
  ·rename_i hh;have hx:=h u (by simp) k hh;unfold vb at hx;exact zX (zIa (.inl rfl) (by omega)) (zX (zIa (.inr rfl) (by omega)) ZO)
  ·exact ZO) (zFA us (k+1) (fun v hv=>h v (by simp [hv])))
theorem zIW (shape:Int):∀ u∈ZD shape,hd0 u<4:=fun u hu=>by
 have h:=zO shape u hu
 rcases u with _|⟨a,l⟩
 ·exact absurd h.2.1 (by decide)
 ·exact h.2.2 a (by simp)
theorem zLQ {t a0 a1:Int} {y:Nat→Int} (h:zBi t a0 a1 y) {p l:Nat} (hp:p<4) (hl:l<2) (hh:Zv l (y (20+7*p))=true):zFW y a0 a1 p∧y (20+7*p)≠3:=by
 have h3:y (20+7*p)≠3:=fun e=>by
  rw [e] at hh;obtain rfl|rfl:l=0∨l=1:=by omega
  all_goals cases hh
 rcases h.2.2 p hp with h1|h1
 ·exact absurd h1.1 h3
 ·exact ⟨h1.1,h3⟩
theorem zLX {s:Sl} {y:Nat→Int} {ds:List DoneP} {p:Int} (h:zBi s.t s.a0 s.a1 y) (hb:Behind ds p) (ba:s.a0≤8∧s.a1≤8):∀ a∈zE1 s.t (y 1) s.a0 s.a1 (s.B ds y 0) (s.B ds y 1) (fun p=>y (20+7*p)) (s.G ds y),a.fine:=by
 have hr:∀ l,l<2→∀ u∈ZD (y 1),Zv l (y (20+7*hd0 u))=true→0≤s.G ds y (7*hd0 u+(1+l))∧s.G ds y (7*hd0 u+(1+l))≤(if l=0 then s.a0 else s.a1)-1:=fun l hl u hu hh=>by
  have h1:=zLQ h (zIW _ u hu) hl hh;unfold Sl.G;rw [zCV _ _ _ _ (by omega),if_neg h1.2];exact h1.1.on l hl hh
 have hv:∀ l,l<2→∀ u∈ZD (y 1),∀ k,Zv l (y (20+7*hd0 u))=true→(vb (s.G ds y (7*hd0 u+(3+2*l)))∧vb (s.G ds y (7*hd0 u+(4+2*l))))∧vb (s.B ds y l k (hd0 u)).1∧vb (s.B ds y l k (hd0 u)).2:=fun l hl u hu k _=>
  ⟨⟨zNt hb h _ (zIW _ u hu) _ (by omega) (by omega),zNt hb h _ (zIW _ u hu) _ (by omega) (by omega)⟩,zOB hb h hl k _⟩
 have hd:∀ u∈ZD (y 1),0≤y (20+7*hd0 u)∧y (20+7*hd0 u)≤(if y 1=3 then 3 else 2):=fun u hu=>by
  rcases h.2.2 _ (zIW _ u hu) with h1|h1
  ·rw [h1.1,if_pos h1.2.2.1];decide
  ·have:=h1.1.dir
   split<;>omega
 have r0:=hr 0 (by decide);have r1:=hr 1 (by decide);rw [if_pos rfl] at r0;rw [if_neg (by decide)] at r1;unfold zE1;refine zX (Zx rfl rfl (by decide) h.1 (by decide)) (zAR ?_ (zAR (zFB (by omega) _ r0) (zAR (zFB (by omega) _ r1) (zAR (zFA _ _ (hv 0 (by decide))) (zFA _ _ (hv 1 (by decide)))))))
 split
 ·exact zKW (by split<;>decide) _ hd
 ·exact ZO
theorem zL2 {s:Sl} {y ps:Nat→Int} (h:MbOk s y ps) (h3:y 0≠3):zF5 (y 0) (kAll.drop s.off) 0<5-s.off∧(kAll.drop s.off).getD (zF5 (y 0) (kAll.drop s.off) 0) 0=y 0:=by
 have hk:=h.kind;have ht:=h.ty;unfold Sl.off;generalize y 0=k at*;generalize s.t=t at*;have hk2:(k=4∧(t=0∨t=1))∨(k=5∧t=1)∨((k=0∨k=1∨k=2)∧(t=0∨t=1∨t=2)):=by omega
 rcases hk2 with ⟨rfl,rfl|rfl⟩|⟨rfl,rfl⟩|⟨rfl|rfl|rfl,rfl|rfl|rfl⟩<;>decide
theorem zLy {s:Sl} (h:s.t=0∨s.t=1∨s.t=2):(s.t=0∧s.off=1)∨(s.t=1∧s.off=0)∨(s.t=2∧s.off=2):=by
 unfold Sl.off
 rcases h with h|h|h<;>rw [h]<;>decide
theorem zMu {s:Sl} {y ps:Nat→Int} {ds:List DoneP} {p:Int} (h:MbOk s y ps) (hb:Behind ds p) (ba:s.a0≤8∧s.a1≤8):∀ a∈zCq s ds p y ps,a.fine:=by
 have hcn:=zEN za ds s.f s.wide ds.length;have hcs:=zEN (fun k=>k != 3) ds s.f s.wide ds.length;have hd:=zIb hb.qp h.qp;unfold zCq;refine zAR ?_ ?_
 ·split
  ·exact ZO
  ·refine zX ⟨.inl rfl,?_,by omega,by omega⟩ ZO
   split<;>rfl
 ·split
  ·exact ZO
  ·rename_i h3;have hi:=(zL2 h h3).1;have ho:=zLy h.ty;refine zX (Zx rfl rfl (by omega) (by omega) (by omega)) ?_;unfold zC4
   split
   ·intro a ha;obtain ⟨v,hv,rfl⟩:=List.mem_map.1 ha;obtain ⟨i,hi,rfl⟩:=List.mem_map.1 hv;exact h.pcm i (by simpa using hi)
   ·refine zAR ?_ (zAR ?_ (zKU h ⟨hd.1,hd.2.1⟩ (zJD ds s.f s.wide)))
    ·unfold zHW
     split
     ·rename_i h1;exact zX (Zx rfl rfl (by decide) (h.body.2.2.2.2.2.1 h1).1 (by decide)) ZO
     ·split
      ·rename_i h0;have hw:=h.body.2.2.2.2.1 h0;exact zDx (fun b hb2=>zKV (zD7 hb hw.1 b hb2) (hw.1 b hb2)) 16 (Nat.le_refl _)
      ·split
       ·rename_i h4;exact zLX (h.inter h4) hb ba
       ·exact ZO
    ·split
     ·rename_i hw;refine zX (Zx rfl rfl (by decide) ?_ (by decide)) ZO
      by_cases h0:y 0=0
      ·exact (h.body.2.2.2.2.1 h0).2
      ·by_cases h1:y 0=1
       ·exact (h.body.2.2.2.2.2.1 h1).2
       ·have:y 0=2:=by simpa [za,h0,h1] using hw
        contradiction
     ·exact ZO
theorem zLt {S:Nat→Value} {i:Nat} {v:Value} (h:S i=v):upd S i v=S:=by
 funext j
 unfold upd
 split
 ·rename_i e;rw [e,h]
 ·rfl
structure zNE (s:Sl) (S:Nat→Value):Prop where
 h0:S 0=.int .i64 s.f
 h2:S 2=.int .i64 s.t
 h6:S 6=.bool s.sp
 h7:S 7=.int .i64 s.a0
 h8:S 8=.int .i64 s.a1
 h21:S 21=.int .i64 s.wide
 bf:s.f≤1000000
 bw:1≤s.wide∧s.wide≤1000000
 ba:(0≤s.a0∧s.a0≤8)∧0≤s.a1∧s.a1≤8
def zM5 (c:Cod) (F:List Nat) (w:World) (sb mb:Nat) (S X:Nat→Value) (s:Sl) (ds:List DoneP) (r:List Ask) (p:Int) (y ps:Nat→Int) (e:Ending) (w':World):Prop:=
 e=.returned (.tuple #[])∧∃ (v':Value) (z':Nat→Int) (F':List Nat) (Xf:Nat→Value) (G':List Nat),
  Ran c F w w' sb mb (zV (upd (upd S 22 (.int .i64 (zDn p y))) 23 v') z') Xf (ds.length+1) (zG (ds++[s.d ds y])) F' r G'∧
  (∀ j,j<482→Xf j=.int .i64 (s.out ds y j))∧(y 0≠2→Xf 482=X 482∧G'=(S 23).ownBlock.toList)∧
  (y 0=2→∃ pb cap,Xf 482=.slice (some ⟨pb,0,none⟩) 384 cap∧PcmIs w' pb ps∧pb∉F'∧(w.heap.size≤pb∨∃ cap',X 482=.slice (some ⟨pb,0,none⟩) 384 cap')∧G'=pb::(S 23).ownBlock.toList)
theorem zNQ {s:Sl} {S:Nat→Value} {y:Nat→Int} {ds:List DoneP} {p:Int} (hs:zNE s S) (h:zBi s.t s.a0 s.a1 y) (ht:s.t=0∨s.t=1) (hb:Behind ds p):zNo ds s.f s.wide ds.length s.sp s.t s.a0 s.a1 (s.B ds y 0) (s.B ds y 1) y (s.G ds y) where
 ty:=ht
 shape:=h.1
 d0:=fun h0 p hp=>by
  rcases h.2.2 p hp with h1|h1
  ·omega
  ·exact h1.2 h0
 g:=rfl
 one:=h.2.1
 parts:=fun p hp h3=>(h.2.2 p hp).elim (fun h1=>absurd h1.1 h3) (fun h1=>h1.1)
 small:=fun i hi=>by
  have e:20+i=20+(7*(i/7)+i%7):=by omega
  have ba:=hs.ba
  by_cases h3:3≤i%7
  ·have:=zIV h (i/7) (by omega) (i%7) h3 (by omega);unfold vb at this;rw [e];omega
  ·rcases h.2.2 (i/7) (by omega) with h1|h1
   ·by_cases h0:i%7=0
    ·rw [e,h0,Nat.add_zero,h1.1];omega
    ·rw [e,h1.2.2.2 _ (by omega) (by omega)];omega
   ·by_cases h0:i%7=0
    ·rw [e,h0,Nat.add_zero];have:=h1.1.dir;omega
    ·obtain ⟨l,hl,hl2⟩:∃ l,l<2∧i%7=1+l:=⟨i%7-1,by omega,by omega⟩;rw [e,hl2]
     cases hh:Zv l (y (20+7*(i/7))) with
     |true=>
      have:=h1.1.on l hl hh
      split at this<;>omega
     |false=>
      have:=(h1.1.off l hl hh).1;omega
 b0:=fun _ _=>rfl
 b1:=fun _ _=>rfl
 r0:=fun k first _ _=>by
  have:=zOB hb h (show 0<2 by decide) k first
  unfold vb at this;omega
 r1:=fun k first _ _=>by
  have:=zOB hb h (show 1<2 by decide) k first
  unfold vb at this;omega
theorem zMT {s:Sl} {y ps:Nat→Int} {ds:List DoneP} {p:Int} (hy:MbOk s y ps) (hb:Behind ds p):zMA ds s.f s.wide ds.length (zCr y) (zAI y) p (dqp p (y 49)) (zNA ds s.f s.wide) y where
 hl:=hy.cbp.2.2.2.1
 hl1:=hy.coefs.1
 hh:=hy.cbp.2.2.2.2
 hcbp:=hy.cbp.2.2.1
 hinc:=rfl
 hds:=hb.cbp
 hp:=hb.qp
 hd:=⟨(zIb hb.qp hy.qp).1,(zIb hb.qp hy.qp).2.1⟩
 hq:=(zIb hb.qp hy.qp).2.2
 hyq:=hy.qp
 hz:=fun _ h1 h2 h3=>hy.rest0 h2 h1 h3
theorem zFo {c:Cod} {F:List Nat} {w:World} {kb sb mb n:Nat} {S X:Nat→Value} {ds:List DoneP} {r:List Ask} {z x y ps:Nat→Int} {p:Int} {s:Sl} (hc:c.Ok)
 (h:Scene c F w w kb sb mb (zV S z) X n (zG ds) F (zCq s ds p y ps++r)) (hs:zNE s S) (h22:S 22=.int .i64 p) (bn:n≤1000000) (hds:ds.length=n)
 (hb:Behind ds p) (hy:MbOk s y ps) (hg:MbGiven c.wr X x y)
 (hX:y 0=2→(c.wr=false∧X 482=.slice none 0 0)∨∃ (pb cap:Nat) (q:Nat→Int),X 482=.slice (some ⟨pb,0,none⟩) 384 cap∧PcmIs w pb q∧pb∉F∧(c.wr=true→∀ i,i<384→q i=ps i)):
 Calls Tryz.prog 37 #[.pointer (some ⟨kb,0,none⟩)] w (zM5 c F w sb mb S X s ds r p y ps):=by
 subst hds;have hk:=hy.kind
 by_cases h3:y 0=3
 ·have hz:=hy.zero2 (.inr h3);have ht:s.t=0∨s.t=1:=by omega
  have e:zCq s ds p y ps++r=.elem 0 (zAH (fun k=>k != 3) ds s.f s.wide ds.length) 1 1::r:=by
   unfold zCq;rw [if_neg (by omega),if_pos h3,if_pos h3]
   rfl
  rw [e] at h;have hp:s.parts ds y=fun i=>zAv s.t ds s.f s.wide ds.length s.sp (i%7):=by
   funext i
   unfold Sl.parts;rw [if_neg (by omega),if_pos (show y 0=5∨y 0=3 from .inr h3)]
  refine (zHf (d:=s.d ds y) (x0:=x 0) hc h hs.h0 hs.h21 hs.bf hs.bw bn rfl hs.h2 ht hs.h6 (hg.cell 0 (by decide)) (fun hw=>by rw [hg.told hw 0 (by decide),h3]) (by rw [hg.same (by decide) (hz 48 (by decide) (by decide)),hz 48 (by decide) (by decide)]) (fun i hi=>by rw [hg.same (by omega) (hz (2+i) (by omega) (by omega)),hz (2+i) (by omega) (by omega)])
   ⟨h3,hz 48 (by decide) (by decide),fun i hi=>hz (2+i) (by omega) (by omega),fun i _=>by show s.parts ds y i=_;rw [hp]⟩).mono ?_
  rintro e w' ⟨rfl,v',z',F',h1⟩;have hn:zDn p y=p:=by
   unfold zDn;rw [if_neg (fun h=>by rw [h3,hz 48 (by decide) (by decide)] at h;exact absurd h.2 (by decide))]
  refine ⟨rfl,v',z',F',_,_,by rw [hn,zLt h22];exact h1,fun j hj=>?_,fun _=>⟨?_,rfl⟩,fun h=>by omega⟩
  ·unfold Sl.out
   split
   ·rename_i hj2;have h8:=zE5 (fun i=>zAv s.t ds s.f s.wide ds.length s.sp (i%7)) (upd X 0 (.int .i64 3)) (j-20) (by omega);rw [show 20+(j-20)=j by omega] at h8;rw [h8,hp]
   ·rw [zBg (fun i=>zAv s.t ds s.f s.wide ds.length s.sp (i%7)) _ _ (by omega)]
    by_cases h0:j=0
    ·subst h0;rw [ZK,h3]
    ·rw [ZN _ _ h0];exact hg.same hj (hz j hj h0)
  ·rw [zBg (fun i=>zAv s.t ds s.f s.wide ds.length s.sp (i%7)) _ _ (by decide),ZN _ _ (by decide)]
 ·have e:zCq s ds p y ps++r=(if s.t=2 then [] else [.elem 0 (zAH (fun k=>k != 3) ds s.f s.wide ds.length) 0 1])++(.elem 1 (zAH za ds s.f s.wide ds.length) (zF5 (y 0) (kAll.drop s.off) 0:Nat) ((5-s.off:Nat)-1)::(zC4 s ds p y ps++r)):=by
   unfold zCq;rw [if_neg h3,if_neg h3,List.append_assoc,List.cons_append]
  rw [e] at h;have hp:zA2 s.t ds s.f s.wide ds.length s.sp y (s.G ds y)=s.parts ds y:=by
   funext i
   unfold zA2 Sl.parts
   by_cases h5:y 0=5
   ·rw [if_pos h5,if_pos (show y 0=5∨y 0=3 from .inl h5)]
   ·rw [if_neg h5,if_neg (show ¬ (y 0=5∨y 0=3) from fun h=>h.elim h5 h3)]
  refine (zHg (ps:=ps) (G:=s.G ds y) (L:=zCr y) (H:=zAI y) (p:=p) (d:=dqp p (y 49)) (inc:=zNA ds s.f s.wide) (B0:=s.B ds y 0) (B1:=s.B ds y 1) hc h (by
   unfold zC4 zHW
   by_cases h2:y 0=2
   ·rw [if_pos h2,if_pos h2]
   ·rw [if_neg h2,if_neg h2,List.append_assoc,List.append_assoc]) hs.h0 hs.h21 hs.bf hs.bw bn rfl hs.h2 (zLy hy.ty) rfl h3 (zL2 hy h3) hg (by omega) hy.lo hs.h6 hs.h7 hs.h8 hs.ba (fun h4=>zNQ hs (hy.inter h4) (by omega) hb)
   (fun h0=>⟨(hy.body.2.2.2.2.1 h0).1,zD7 hb (hy.body.2.2.2.2.1 h0).1⟩) (fun hw=>by
    have hi:=hy.body.2.1;unfold zE9 at hi
    rcases hi.2.1 with h|h|h
    ·rw [h] at hw;cases hw
    ·rw [h] at hw;cases hw
    ·exact h) (fun _=>zMT hy hb) h22 (fun h5=>by omega) (fun h2=>⟨hy.pcm,hX h2,hy.zero2 (.inl h2)⟩)).mono ?_
  rintro e w' ⟨rfl,v',z',F',Xf,G',h1,h4,h5,h6⟩;rw [hp] at h1 h4;refine ⟨rfl,v',z',F',Xf,G',?_,h4,h5,h6⟩;unfold zDn
  by_cases ht:y 0≠2∧zAg (y 0) (y 48)=true
  ·rw [if_pos ht] at h1 ⊢;exact h1
  ·rw [if_neg ht] at h1 ⊢;rw [zLt h22];exact h1
theorem zBP {P:Program} {ops:Array Oper} {rest:List Oper} {o:Oper} {a:Act} {w:World} {Q:Exit→Act→World→Prop} (hgd:o.guard=none) (t:TypeId) (parts:Array (Nat×Operand)) (ho:o.op=.build t parts) (cells:Array Value)
 (hb:P.built t (parts.map fun (i,x)=>(i,a.eval x)).toList=some cells) (h:wpList P ops Q rest (a.put o.dst (.agg cells)) w):wpList P ops Q (o::rest) a w:=by
 refine wpList_plain hgd fun K hK=>?_
 unfold Oper.wp execOp;simp only [ho,Sem.run_bind,run_build w t _ cells hb,Result.andThen_ok];exact hK _ _ h
def hdL (hd:Nat→Value):List Value:=[hd 0,hd 1,hd 2,hd 3,hd 4,hd 5,hd 6,hd 7,hd 8,hd 9,hd 10,hd 11,hd 12,hd 13,hd 14,hd 15,hd 16,hd 17,hd 18,hd 19,hd 20]
theorem zF7 (hd:Nat→Value) (i:Nat) (h:i<21):(hdL hd)[i]? =some (hd i):=by
 have e:hdL hd=(List.range 21).map hd:=rfl;rw [e];simp [h]
def stS (hd:Nat→Value) (wide qp:Int):Nat→Value:=fun j=>if j<21 then hd j else if j=21 then .int .i64 wide else if j=22 then .int .i64 qp else if j=23 then .slice none 0 0 else .int .i64 0
structure zCb (hd:Nat→Value) (f cnt t a0 a1 qp:Int):Prop where
 h0:hd 0=.int .i64 f
 h1:hd 1=.int .i64 cnt
 h2:hd 2=.int .i64 t
 h7:hd 7=.int .i64 a0
 h8:hd 8=.int .i64 a1
 h17:hd 17=.int .i64 qp
theorem zIC (hd:Nat→Value) (wide qp:Int):Tryz.prog.built 106 [(0,.agg (hdL hd).toArray),(1,.int .i64 wide),(2,.int .i64 qp)]=some (fnA 75 (stS hd wide qp)):=by kernel_rfl
theorem zEW {hd:Nat→Value} {f cnt t a0 a1 qp wide:Int} {w:World} (hh:zCb hd f cnt t a0 a1 qp) (hw:1≤wide∧wide≤8) (hf:0≤f) (hc:1≤cnt) (ht:0≤t∧t≤2) (hq:0≤qp∧qp≤51) (ha0:0≤a0∧a0≤8) (ha1:0≤a1∧a1≤8):
 Calls Tryz.prog 32 #[.agg (hdL hd).toArray,.int .i64 wide] w fun e w'=>∃ sb,e=.returned (.tuple #[.pointer (some ⟨sb,0,none⟩),.int .i64 0])∧BlkIn w' sb 75 106 (stS hd wide qp)∧w.heap.size≤sb∧Only [] w w':=by
 obtain ⟨HL,hHL⟩:∃ HL,HL=hdL hd:=⟨_,rfl⟩;obtain ⟨ST,hST⟩:∃ ST,ST=fnA 75 (stS hd wide qp):=⟨_,rfl⟩;have hbt:=zIC hd wide qp;rw [←hHL,←hST] at hbt;have hat:∀ i,i<21→(w.alloc (.cells HL.toArray 26)).cell? ⟨w.heap.size,i,none⟩=some (hd i):=fun i hi=>by
  rw [zA (ZA w _),hHL]
  simpa using zF7 hd i hi
 have hr:(w.alloc (.cells HL.toArray 26)).rangeAt w.heap.size 0 HL:=fun j v hj=>by
  rw [Nat.zero_add,zA (ZA w _)]
  simpa using hj
 have hlen:(Tryz.prog.info? 26).map (·.size)=some HL.length:=by rw [hHL];show _=some 21;kernel_rfl
 have c0:=hat 0 (by decide);have c1:=hat 1 (by decide);have c2:=hat 2 (by decide);have c7:=hat 7 (by decide);have c8:=hat 8 (by decide);have c17:=hat 17 (by decide);rw [hh.h0] at c0;rw [hh.h1] at c1;rw [hh.h2] at c2;rw [hh.h7] at c7;rw [hh.h8] at c8;rw [hh.h17] at c17;have O1:Hid (Only [] w (w.alloc (.cells HL.toArray 26))):=zh ((Only.refl [] w).alloc _);have Hbt:=zh hbt;have HR:=zh hr;have HLen:=zh hlen;have HST:=zh hST;have hs1:w.heap.size<(w.alloc (.cells HL.toArray 26)).heap.size:=by simp
 rw [←hHL];clear hh hHL hST hbt hat hr hlen
 go_enter Tryz.func32,Tryz.ntmps32
 go_wp2_with fail
 refine (zAY wide _ _ _).mono ?_;rintro e w' ⟨rfl,rfl⟩;generalize w.alloc (.cells HL.toArray 26)=w1 at*;rw [decide_eq_true hw.1,decide_eq_true hw.2,Bool.and_true]
 go_wp2_with fail
 refine (zAY t _ _ _).mono ?_;rintro e w' ⟨rfl,rfl⟩;rw [decide_eq_true ht.1,decide_eq_true ht.2,Bool.and_true]
 go_wp2_with fail
 refine (zAY qp _ _ _).mono ?_;rintro e w' ⟨rfl,rfl⟩;rw [decide_eq_true hq.1,decide_eq_true hq.2,Bool.and_true]
 go_wp2_with fail
 refine (zAY a0 _ _ _).mono ?_;rintro e w' ⟨rfl,rfl⟩;rw [decide_eq_true ha0.1,decide_eq_true ha0.2,Bool.and_true]
 go_wp2_with fail
 refine (zAY a1 _ _ _).mono ?_;rintro e w' ⟨rfl,rfl⟩;rw [decide_eq_true ha1.1,decide_eq_true ha1.2,Bool.and_true]
 go_wp2_with (first|(with_reducible refine wpList_load_mid rfl 26 _ rfl w.heap.size 0 rfl HL _ HR.out Tryz.underlying26 rfl HLen.out ?_)|(refine zBP rfl _ _ rfl ST (Eq.trans (by kernel_rfl) Hbt.out) ?_))
 go_ret2
 refine ⟨w1.heap.size,rfl,?_,by omega,O1.out.alloc _⟩;unfold BlkIn;rw [ZA,HST.out]
end Go.Proofs.YtcppbdlmcbjmeaaGreatDoor
