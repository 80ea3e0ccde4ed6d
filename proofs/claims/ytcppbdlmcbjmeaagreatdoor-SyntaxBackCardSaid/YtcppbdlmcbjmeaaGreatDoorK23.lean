/- Lemmas that the law needs, part 23. -/
import Derived.Test.YtcppbdlmcbjmeaaGreatDoorK21
namespace Go.Proofs.YtcppbdlmcbjmeaaGreatDoor
open Go.RowKit
def gOf (y tq:Nat→Int):Nat→Int:=fun i=>if y (20+7*(i/7))=3 then tq (i%7) else y (20+i)
theorem zCV (y tq:Nat→Int) (p j:Nat) (hj:j<7):gOf y tq (7*p+j)=if y (20+7*p)=3 then tq j else y (20+(7*p+j)):=by
 unfold gOf;rw [show (7*p+j)/7=p by omega,show (7*p+j)%7=j by omega]
theorem zMs {shape:Int} {y tq:Nat→Int} (h:zHc shape (fun i=>y (20+i))):zHc shape (gOf y tq):=fun p j hp hj=>by
 have h0:=h p 0 hp (by decide);have hj':=h p j hp hj;dsimp only at h0 hj';rw [Nat.add_zero,Nat.add_zero] at h0;rw [zCV _ _ _ _ hj,zCV _ _ _ _ hj,h0,hj']
structure zFW (y:Nat→Int) (a0 a1:Int) (p:Nat):Prop where
 dir:0≤y (20+7*p)∧y (20+7*p)≤2
 off:∀ l,l<2→Zv l (y (20+7*p))=false→y (20+(7*p+(1+l)))=-1∧y (20+(7*p+(3+2*l)))=0∧y (20+(7*p+(4+2*l)))=0
 on:∀ l,l<2→Zv l (y (20+7*p))=true→0≤y (20+(7*p+(1+l)))∧y (20+(7*p+(1+l)))≤(if l=0 then a0 else a1)-1
 mv:∀ l,l<2→(-256≤y (20+(7*p+(3+2*l)))∧y (20+(7*p+(3+2*l)))≤256)∧-256≤y (20+(7*p+(4+2*l)))∧y (20+(7*p+(4+2*l)))≤256
def zE1 (t shape a0 a1:Int) (B0 B1:Nat→Nat→Int×Int) (D G:Nat→Int):List Ask:=
 .elem 6 0 shape 3::((if t=1 then zBj (if shape=3 then 3 else 2) D (ZD shape) else [])++(ZM (a0-1) 0 D G (ZD shape)++(ZM (a1-1) 1 D G (ZD shape)++(ZI B0 0 D G (ZD shape) 0++ZI B1 1 D G (ZD shape) 0))))
def zM7 (x:Nat→Int) (k:Nat) (v:Int):Nat→Int:=fun j=>if j=k then v else x j
def zEL (d:Int):List Nat→(Nat→Int)→Nat→Int
 |[],x=>x
 |p::ps,x=>zEL d ps (zM7 x (7*p) d)
theorem zFJ (d:Int):∀ (ps:List Nat) (p:Nat) (x:Nat→Int),zEL d (ps++[p]) x=zM7 (zEL d ps x) (7*p) d
 |[],_,_=>rfl
 |_::ps,p,_=>zFJ d ps p _
theorem zFK (d:Int):∀ (ps:List Nat) (x:Nat→Int) (p:Nat),p∈ps∨x (7*p)=d→zEL d ps x (7*p)=d
 |[],x,p,h=>h.elim (fun h=>by cases h) id
 |q::ps,x,p,h=>by
  refine zFK d ps _ p ?_
  by_cases hm:p∈ps
  ·exact .inl hm
  ·refine .inr ?_;unfold zM7
   by_cases hq:p=q
   ·rw [if_pos (by omega)]
   ·rw [if_neg (by omega)]
    rcases h with h|h
    ·rcases List.mem_cons.1 h with h|h
     ·exact absurd h hq
     ·exact absurd h hm
    ·exact h
theorem zCj (d:Int):∀ (ps:List Nat) (x:Nat→Int) (k:Nat),(∀ p∈ps,k≠7*p)→zEL d ps x k=x k
 |[],_,_,_=>rfl
 |q::ps,x,k,h=>by
  refine (zCj d ps _ k (fun p hp=>h p (List.mem_cons_of_mem _ hp))).trans ?_;unfold zM7;rw [if_neg (h q List.mem_cons_self)]
theorem zLL (x:Nat→Int) (X:Nat→Value) (k:Nat) (v:Int) (hk:k<28):upd (zAz 20 28 (fun i=> .int .i64 (x i)) X) (20+k) (.int .i64 v)=zAz 20 28 (fun i=> .int .i64 (zM7 x k v i)) X:=by
 funext j
 unfold upd zAz zM7;dsimp only
 by_cases h:j=20+k
 ·rw [if_pos h,if_pos (by omega),if_pos (by omega)]
 ·rw [if_neg h]
  split
  ·rw [if_neg (by omega)]
  ·rfl
theorem zIU (x:Nat→Int) (X:Nat→Value) (h:∀ i,i<28→X (20+i)=.int .i64 (x i)):zAz 20 28 (fun i=> .int .i64 (x i)) X=X:=by
 funext j
 unfold zAz
 split
 ·dsimp only;rw [←h (j-20) (by omega),show 20+(j-20)=j by omega]
 ·rfl
theorem zE5 (x:Nat→Int) (X:Nat→Value) (i:Nat) (h:i<28):zAz 20 28 (fun i=> .int .i64 (x i)) X (20+i)=.int .i64 (x i):=by
 unfold zAz;rw [if_pos (by omega),show 20+i-20=i by omega]
theorem zBg (x:Nat→Int) (X:Nat→Value) (j:Nat) (h:j<20∨48≤j):zAz 20 28 (fun i=> .int .i64 (x i)) X j=X j:=by
 unfold zAz;rw [if_neg (by omega)]
structure DirZ (wr:Bool) (shape:Int) (y:Nat→Int) (i:Nat) (x:Nat→Int):Prop where
 told:wr=true→∀ k,k<28→x k=y (20+k)
 none:wr=false→∀ k,k<28→k%7≠0→x k=0
 got:∀ p,p<4→Zg shape p<i→x (7*p)=y (20+7*p)
theorem DirZ.step {wr:Bool} {shape:Int} {y x:Nat→Int} {i hd:Nat} {u t:List Nat} (h:DirZ wr shape y i x) (hs:0≤shape∧shape≤3) (hu:(ZD shape)[i]? =some u) (hh:u=hd::t) (hU:zHc shape (fun i=>y (20+i))):DirZ wr shape y (i+1) (zEL (y (20+7*hd)) u x):=by
 obtain ⟨h',t',e,h4,hhd,hm⟩:=ZY hs i u hu;rw [hh] at e;obtain ⟨rfl,rfl⟩:=List.cons.inj e;have hp4:∀ p∈u,p<4:=fun p hp=>((zO shape) u (List.mem_of_getElem? hu)).2.2 p hp
 have hd1:∀ p∈u,y (20+7*p)=y (20+7*hd):=fun p hp=>by
  have h0:=hU p 0 (hp4 p hp) (by decide);dsimp only at h0;rw [Nat.add_zero,Nat.add_zero,((hm p (hp4 p hp)).2) hp] at h0;exact h0
 refine ⟨fun hw k hk=>?_,fun hw k hk hk7=>?_,fun p hp hup=>?_⟩
 ·by_cases hmem:∃ p∈u,k=7*p
  ·obtain ⟨p,hp,rfl⟩:=hmem;rw [zFK _ u x p (.inl hp),hd1 p hp]
  ·rw [zCj _ u x k (fun p hp e=>hmem ⟨p,hp,e⟩),h.told hw k hk]
 ·rw [zCj _ u x k (fun p hp e=>hk7 (by omega)),h.none hw k hk hk7]
 ·by_cases hpu:p∈u
  ·rw [zFK _ u x p (.inl hpu),hd1 p hpu]
  ·have hne:Zg shape p≠i:=fun e=>hpu (((hm p hp).1).2 e)
   rw [zCj _ u x (7*p) (fun q hq e=>hpu (by rw [show p=q by omega];exact hq)),h.got p hp (by omega)]
def zL9 (k:Nat) (p:Nat→Int):Nat→Int:=fun j=>if j=1+k then -1 else if j=3+2*k∨j=4+2*k then 0 else p j
def zFk (D:Int):Nat→(Nat→Int)→Nat→Int
 |0,p=>p
 |k+1,p=>if Zv k D=true then zFk D k p else zL9 k (zFk D k p)
theorem zId (D:Int) (p:Nat→Int) (j:Nat):zFk D 2 p j=if Zv 1 D=false∧(j=2∨j=5∨j=6) then (if j=2 then -1 else 0) else if Zv 0 D=false∧(j=1∨j=3∨j=4) then (if j=1 then -1 else 0) else p j:=by
 unfold zFk zFk zFk
 cases h1:Zv 1 D<;>cases h0:Zv 0 D<;>simp only [Bool.false_eq_true,if_false,if_true,true_and,false_and,Bool.true_eq_false]<;>(try unfold zL9)<;>(try dsimp only)<;>(repeat' split)<;>first|rfl|omega
structure SetZ (shape:Int) (y tq x2:Nat→Int) (i:Nat) (z:Nat→Int):Prop where
 kind:z 0=4
 unit:z 46=0
 of:∀ p,p<4→z (47+p)=Zg shape p
 got:∀ p j,p<4→j<7→Zg shape p<i→z (18+(7*p+j))=if y (20+7*p)=3 then tq j else zFk (y (20+7*p)) 2 (fun j=>x2 (7*p+j)) j
theorem SetZ.start {shape:Int} (hs:0≤shape∧shape≤3) (y tq x2 z:Nat→Int):SetZ shape y tq x2 0 (zw 4 shape z):=by
 refine ⟨?_,?_,?_,fun p j _ _ h=>absurd h (by omega)⟩
 all_goals obtain rfl|rfl|rfl|rfl:shape=0∨shape=1∨shape=2∨shape=3:=by omega
 all_goals first
  |rfl
  |(intro p hp
    obtain rfl|rfl|rfl|rfl:p=0∨p=1∨p=2∨p=3:=by omega
    all_goals rfl)
theorem SetZ.step {shape:Int} {y tq x2 z:Nat→Int} {i hd:Nat} {u t:List Nat} (h:SetZ shape y tq x2 i z) (hs:0≤shape∧shape≤3) (hu:(ZD shape)[i]? =some u) (hh:u=hd::t) (hU:zHc shape (fun i=>y (20+i))) (q:Nat→Int)
 (hx:∀ p,p∈u→∀ j,j<7→x2 (7*p+j)=x2 (7*hd+j)) (hq:∀ j,j<7→q j=if y (20+7*hd)=3 then tq j else zFk (y (20+7*hd)) 2 (fun j=>x2 (7*hd+j)) j):SetZ shape y tq x2 (i+1) (zDg q u z):=by
 obtain ⟨h',t',e,h4,hhd,hm⟩:=ZY hs i u hu;rw [hh] at e;obtain ⟨rfl,rfl⟩:=List.cons.inj e;have hp4:∀ p∈u,p<4:=fun p hp=>((zO shape) u (List.mem_of_getElem? hu)).2.2 p hp
 have hout:∀ j,(j<18∨46≤j)→zDg q u z j=z j:=fun j hj=>zDH q u z j (fun p hp=>by have:=hp4 p hp;omega)
 refine ⟨by rw [hout 0 (by decide),h.kind],by rw [hout 46 (by decide),h.unit],fun p hp=>by rw [hout (47+p) (by omega),h.of p hp],fun p j hp hj hup=>?_⟩
 by_cases hpu:p∈u
 ·rw [zHr q u z p j hj hp (.inl hpu),hq j hj];have h0:=hU p 0 hp (by decide);dsimp only at h0;rw [Nat.add_zero,Nat.add_zero,((hm p hp).2) hpu] at h0;rw [h0]
  split
  ·rfl
  ·rw [zId,zId,hx p hpu j hj]
 ·have hne:Zg shape p≠i:=fun e=>hpu (((hm p hp).1).2 e)
  rw [zDH q u z _ (fun p' hp' hc=>hpu (by rw [show p=p' by omega];exact hp'))];exact h.got p j hp hj (by omega)
def R0 (shape:Int) (y:Nat→Int) (u j:Nat):Prop:=∀ p,p<4→Zg shape p=u→y (20+7*p)=3∨j=0∨(Zv 0 (y (20+7*p))=false∧(j=1∨j=3∨j=4))∨(Zv 1 (y (20+7*p))=false∧(j=2∨j=5∨j=6))
theorem SetZ.mot {wr:Bool} {shape a0 a1:Int} {y tq x2 z:Nat→Int} (h:SetZ shape y tq x2 (ZD shape).length z) (hs:0≤shape∧shape≤3) (hx:DirZ wr shape y (ZD shape).length x2) (hp:∀ p,p<4→y (20+7*p)≠3→zFW y a0 a1 p):MotZ wr shape (gOf y tq) (R0 shape y) 0 z:=by
 refine ⟨h.kind,h.unit,h.of,fun p j hp4 hj hr=>?_,fun p j hp4 hj=>?_⟩
 ·rw [h.got p j hp4 hj (Zn hs p hp4),zCV _ _ _ _ hj]
  by_cases h3:y (20+7*p)=3
  ·rw [if_pos h3,if_pos h3]
  ·rw [if_neg h3,if_neg h3,zId];have hk:=hp p hp4 h3;have e0:=hk.off 0 (by decide);have e1:=hk.off 1 (by decide)
   rcases hr p hp4 rfl with h|h|h|h
   ·exact absurd h h3
   ·subst h;rw [if_neg (by omega),if_neg (by omega)];have:=hx.got p hp4 (Zn hs p hp4);rw [Nat.add_zero];exact this
   ·have e:=e0 h.1;rw [if_neg (by omega),if_pos h]
    rcases h.2 with rfl|rfl|rfl
    ·rw [if_pos rfl];exact e.1.symm
    ·rw [if_neg (by decide)];exact e.2.1.symm
    ·rw [if_neg (by decide)];exact e.2.2.symm
   ·have e:=e1 h.1;rw [if_pos h]
    rcases h.2 with rfl|rfl|rfl
    ·rw [if_pos rfl];exact e.1.symm
    ·rw [if_neg (by decide)];exact e.2.1.symm
    ·rw [if_neg (by decide)];exact e.2.2.symm
 ·rw [h.got p j hp4 hj (Zn hs p hp4),zCV _ _ _ _ hj]
  by_cases h3:y (20+7*p)=3
  ·rw [if_pos h3,if_pos h3];exact .inl rfl
  ·rw [if_neg h3,if_neg h3,zId];have hk:=hp p hp4 h3
   by_cases c1:Zv 1 (y (20+7*p))=false∧(j=2∨j=5∨j=6)
   ·have e:=hk.off 1 (by decide) c1.1;rw [if_pos c1]
    rcases c1.2 with rfl|rfl|rfl
    ·rw [if_pos rfl];exact .inl e.1.symm
    ·rw [if_neg (by decide)];exact .inl e.2.1.symm
    ·rw [if_neg (by decide)];exact .inl e.2.2.symm
   ·rw [if_neg c1]
    by_cases c0:Zv 0 (y (20+7*p))=false∧(j=1∨j=3∨j=4)
    ·have e:=hk.off 0 (by decide) c0.1;rw [if_pos c0]
     rcases c0.2 with rfl|rfl|rfl
     ·rw [if_pos rfl];exact .inl e.1.symm
     ·rw [if_neg (by decide)];exact .inl e.2.1.symm
     ·rw [if_neg (by decide)];exact .inl e.2.2.symm
    ·rw [if_neg c0]
     by_cases hj0:j=0
     ·subst hj0;have:=hx.got p hp4 (Zn hs p hp4);rw [Nat.add_zero];exact .inl this
     ·cases hw:wr with
      |true=>exact .inl (hx.told hw _ (by omega))
      |false=>exact .inr ⟨rfl,hx.none hw _ (by omega) (by omega)⟩
theorem DirZ.one {wr:Bool} {shape:Int} {y x:Nat→Int} (h:DirZ wr shape y (ZD shape).length x) (hs:0≤shape∧shape≤3) (hU:zHc shape (fun i=>y (20+i))) {i hd:Nat} {u t:List Nat} (hu:(ZD shape)[i]? =some u) (hh:u=hd::t):∀ p,p∈u→∀ j,j<7→x (7*p+j)=x (7*hd+j):=fun p hpu j hj=>by
 obtain ⟨h',t',e,h4,hhd,hm⟩:=ZY hs i u hu;rw [hh] at e;obtain ⟨rfl,rfl⟩:=List.cons.inj e;have hp:p<4:=((zO shape) u (List.mem_of_getElem? hu)).2.2 p hpu;have hj':=hU p j hp hj;dsimp only at hj';rw [((hm p hp).2) hpu] at hj'
 cases hw:wr with
 |true=>rw [h.told hw _ (by omega),h.told hw _ (by omega),hj']
 |false=>
  by_cases h0:j=0
  ·subst h0;have e1:=h.got p hp (Zn hs p hp);have e2:=h.got hd h4 (Zn hs hd h4);rw [Nat.add_zero,Nat.add_zero] at hj' ⊢;rw [e1,e2,hj']
  ·rw [h.none hw _ (by omega) (by omega),h.none hw _ (by omega) (by omega)]
theorem zJg (k:Nat) (q:Nat→Int):upd (upd (upd (fun j=>Value.int .i64 (q j)) (1+k) (.int .i64 (-1))) (3+2*k) (.int .i64 0)) (4+2*k) (.int .i64 0)=fun j=>Value.int .i64 (zL9 k q j):=by
 funext j
 unfold upd zL9;dsimp only
 by_cases h1:j=4+2*k
 ·rw [if_pos h1,if_neg (by omega),if_pos (.inr h1)]
 ·rw [if_neg h1]
  by_cases h2:j=3+2*k
  ·rw [if_pos h2,if_neg (by omega),if_pos (.inl h2)]
  ·rw [if_neg h2]
   by_cases h3:j=1+k
   ·rw [if_pos h3,if_pos h3]
   ·rw [if_neg h3,if_neg h3,if_neg (by omega)]
theorem zJo {shape:Int} (hs:0≤shape∧shape≤3) {p q:Nat} (h:Zg shape p=Zg shape q):zF6 shape p=zF6 shape q:=by
 obtain rfl|rfl|rfl|rfl:shape=0∨shape=1∨shape=2∨shape=3:=by omega
 ·rfl
 ·have h':p/2=q/2:=h
  show p/2*2=q/2*2
  omega
 ·have h':p%2=q%2:=h;exact h'
 ·have h':p=q:=h;exact h'
theorem zMC {shape:Int} {y:Nat→Int} (hs:0≤shape∧shape≤3) (hU:zHc shape (fun i=>y (20+i))) {p q:Nat} (hp:p<4) (hq:q<4) (h:Zg shape p=Zg shape q):y (20+7*p)=y (20+7*q):=by
 have h1:=hU p 0 hp (by decide);have h2:=hU q 0 hq (by decide);dsimp only at h1 h2;rw [Nat.add_zero,Nat.add_zero] at h1 h2;rw [h1,h2,zJo hs h]
theorem zGE {shape:Int} {y:Nat→Int} (hs:0≤shape∧shape≤3) (hU:zHc shape (fun i=>y (20+i))) {p l:Nat} (hl:l<2) (hp:p<4) (h:Zv l (y (20+7*p))=false):R0 shape y (Zg shape p) (1+l)∧R0 shape y (Zg shape p) (3+2*l)∧R0 shape y (Zg shape p) (4+2*l):=by
 obtain rfl|rfl:l=0∨l=1:=by omega
 ·refine ⟨fun q hq e=>?_,fun q hq e=>?_,fun q hq e=>?_⟩
  all_goals rw [zMC hs hU hq hp e]
  ·exact .inr (.inr (.inl ⟨h,.inl rfl⟩))
  ·exact .inr (.inr (.inl ⟨h,.inr (.inl rfl)⟩))
  ·exact .inr (.inr (.inl ⟨h,.inr (.inr rfl)⟩))
 ·refine ⟨fun q hq e=>?_,fun q hq e=>?_,fun q hq e=>?_⟩
  all_goals rw [zMC hs hU hq hp e]
  ·exact .inr (.inr (.inr ⟨h,.inl rfl⟩))
  ·exact .inr (.inr (.inr ⟨h,.inr (.inl rfl)⟩))
  ·exact .inr (.inr (.inr ⟨h,.inr (.inr rfl)⟩))
theorem zFV (shape:Int) (y:Nat→Int) (u:Nat):R0 shape y u 0:=fun _ _ _=> .inr (.inl rfl)
theorem zIX {l:Nat} (hl:l<2) {d:Int} (h:Zv l d=true):d≠3:=by
 rintro rfl;obtain rfl|rfl:l=0∨l=1:=by omega
 all_goals cases h
theorem zLW {y tq:Nat→Int} {p:Nat} (h:y (20+7*p)≠3):y (20+7*p)=gOf y tq (7*p):=by
 have:=zCV y tq p 0 (by decide);rw [Nat.add_zero] at this;rw [this,if_neg h]
theorem zNb {y tq:Nat→Int} {a0 a1:Int} (hp:∀ p,p<4→y (20+7*p)≠3→zFW y a0 a1 p) {p l:Nat} (hl:l<2) (hp4:p<4) (h:Zv l (y (20+7*p))=true):0≤gOf y tq (7*p+(1+l))∧gOf y tq (7*p+(1+l))≤(if l=0 then a0 else a1)-1:=by
 have h3:=zIX hl h;rw [zCV _ _ _ _ (by omega),if_neg h3];exact (hp p hp4 h3).on l hl h
theorem zOC {y tq:Nat→Int} {a0 a1:Int} (hp:∀ p,p<4→y (20+7*p)≠3→zFW y a0 a1 p) {p l:Nat} (hl:l<2) (hp4:p<4) (h:Zv l (y (20+7*p))=true):(-256≤gOf y tq (7*p+(3+2*l))∧gOf y tq (7*p+(3+2*l))≤256)∧-256≤gOf y tq (7*p+(4+2*l))∧gOf y tq (7*p+(4+2*l))≤256:=by
 have h3:=zIX hl h;rw [zCV _ _ _ _ (by omega),if_neg h3,zCV _ _ _ _ (by omega),if_neg h3];exact (hp p hp4 h3).mv l hl
theorem DirZ.wrote {wr:Bool} {shape:Int} {y x tq:Nat→Int} {i:Nat} (h:DirZ wr shape y i x) (hw:wr=true) {p j:Nat} (hp:p<4) (hj:j<7) (h3:y (20+7*p)≠3):x (7*p+j)=gOf y tq (7*p+j):=by
 rw [h.told hw _ (by omega),zCV _ _ _ _ hj,if_neg h3]
theorem DirZ.small {wr:Bool} {shape:Int} {y x:Nat→Int} (h:DirZ wr shape y (ZD shape).length x) (hs:0≤shape∧shape≤3) (hb:∀ i,i<28→-1000≤y (20+i)∧y (20+i)≤1000) (i:Nat) (hi:i<28):-1000≤x i∧x i≤1000:=by
 cases hw:wr with
 |true=>rw [h.told hw i hi];exact hb i hi
 |false=>
  by_cases h7:i%7=0
  ·have e:=h.got (i/7) (by omega) (Zn hs _ (by omega));rw [show 7*(i/7)=i by omega] at e;rw [e];exact hb i hi
  ·rw [h.none hw i hi h7];decide
theorem zMm (a b:Nat→Value) (X:Nat→Value):zAz 20 28 a (zAz 20 28 b X)=zAz 20 28 a X:=by
 funext j
 unfold zAz
 split<;>rfl
structure zNo (ds:List DoneP) (f wide n:Nat) (sp:Bool) (t a0 a1:Int) (B0 B1:Nat→Nat→Int×Int) (y G:Nat→Int):Prop where
 ty:t=0∨t=1
 shape:0≤y 1∧y 1≤3
 d0:t=0→∀ p,p<4→y (20+7*p)=0
 g:G=gOf y (zJW ds f wide n sp)
 one:zHc (y 1) (fun i=>y (20+i))
 parts:∀ p,p<4→y (20+7*p)≠3→zFW y a0 a1 p
 small:∀ i,i<28→-1000≤y (20+i)∧y (20+i)≤1000
 b0:∀ k first,B0 k first=byN ds f wide n (zFX (y 1) G k) (y 1) 0 k first (G (7*first+1))
 b1:∀ k first,B1 k first=byN ds f wide n (zFX (y 1) G k) (y 1) 1 k first (G (7*first+2))
 r0:∀ k first,first<4→Zv 0 (y (20+7*first))=true→(-1000≤(B0 k first).1∧(B0 k first).1≤1000)∧-1000≤(B0 k first).2∧(B0 k first).2≤1000
 r1:∀ k first,first<4→Zv 1 (y (20+7*first))=true→(-1000≤(B1 k first).1∧(B1 k first).1≤1000)∧-1000≤(B1 k first).2∧(B1 k first).2≤1000
end Go.Proofs.YtcppbdlmcbjmeaaGreatDoor
