/- Lemmas that the law needs, part 3. -/
import Derived.Laws.BytesArg
import Derived.Lib.Fields
set_option maxRecDepth 100000
namespace Go.Proofs.YtcppbdlmcbjmeaaGreatDoor
def kindTab:List Int:=[1,2,1,2,2,2,2,2,2,3,3,2,2,3,1,1,1,4,1,1]
def zK (el:Int):Int:=if el<0 then 0 else kindTab.getD el.toNat 0
def zy (k v most:Int):Bool:=
 if k=1 then decide (v=0∨v=1)
 else if k=2 then decide (1≤most∧most≤63∧0≤v∧v≤most)
 else if k=3 then decide (-32767≤v∧v≤32767)
 else if k=4 then decide (0≤v∧v≤65535)
 else false
def zAj (n limit:Nat):List Int:=List.replicate n 49++(if n<limit then [48] else [])
def zJV (x:Nat):Nat→List Int
 |0=>[]
 |i+1=>(97+(x/2^i%2:Nat))::zJV x i
def zBo:Nat→Nat→Nat→List Int
 |0,_,_=>[]
 |f+1,x,k=>if 2^k≤x then 98::zBo f (x-2^k) (k+1) else 97::zJV x k
def Zk (v own k:Nat):List Int:=zAj (min v own) own++(if own≤v then zBo 18 (v-own) k else [])
def zCp (v:Int):List Int:=if 0<v then [97] else if v<0 then [98] else []
def zG2 (k v most:Int):List Int:=
 if k=1 then [48+v]
 else if k=2 then zAj v.toNat most.toNat
 else if k=3 then Zk v.natAbs 9 3++zCp v
 else Zk v.natAbs 14 0
def zCs (el v most:Int):List Int:=if zy (zK el) v most then zG2 (zK el) v most else []
def zAx (el v most:Int):Int:=if zy (zK el) v most then 0 else 600
theorem zEI (el:Int):0≤zK el∧zK el≤4:=by
 unfold zK
 split
 ·omega
 ·rename_i h
  rcases Nat.lt_or_ge el.toNat 20 with g|g
  ·have:∀ n,n<20→0≤kindTab.getD n 0∧kindTab.getD n 0≤4:=by decide
   exact this _ g
  ·have:kindTab[el.toNat]? =none:=List.getElem?_eq_none (by simpa [kindTab] using g);simp [List.getD,this]
theorem zH1 (x i:Nat):(zJV x i).length=i:=by
 induction i with
 |zero=>rfl
 |succ i ih=>simp [zJV,ih]
theorem zED (n l:Nat) (h:n≤l):(zAj n l).length=min (n+1) l:=by
 unfold zAj
 split<;>simp<;>omega
theorem zGy (f x k:Nat):(zBo f x k).length≤f+f+k:=by
 induction f generalizing x k with
 |zero=>simp [zBo]
 |succ f ih=>
  unfold zBo
  split
  ·have:=ih (x-2^k) (k+1);simp;omega
  ·simp [zH1];omega
theorem zA6 (v own k:Nat):(Zk v own k).length≤own+40+k:=by
 have h1:=zGy 18 (v-own) k;have h2:=zED (min v own) own (by omega);unfold Zk
 split
 ·rw [List.length_append];omega
 ·rw [List.append_nil];omega
def zBk (qp:Int):Int:=if qp<0 then 0 else if 51<qp then 51 else qp
def zLS (q:Int) (c:Nat):Int:=40+13*(c:Int)%48+((7*(c:Int)+5)%41-20)*q/16
def zLR (x:Int):Int:=if x<1 then 1 else if 126<x then 126 else x
def zKK (q:Int) (c:Nat):Int:=if zLR (zLS q c)<64 then 2*(63-zLR (zLS q c)) else 2*(zLR (zLS q c)-64)+1
def zAm (qp:Int):List Int:=(List.range 256).map (zKK (zBk qp))
theorem zGn (qp:Int):0≤zBk qp∧zBk qp≤51:=by unfold zBk;split;omega;split<;>omega
def zDm (l:List UInt8):Int:=l.foldl (fun x b=>10*x+((b.toNat:Int)-48)) 0
def zEy (l:List UInt8):Bool:=decide (l.length≤9)&&l.all (fun b=>decide (48≤b.toNat)&&decide (b.toNat≤57))
def zLz (s:List UInt8) (xs:List Int):Bool:=
 (Lib.fields s).all zEy&&decide ((Lib.fields s).map zDm=xs)&&s.all (fun b=>decide (b.toNat<128))&&decide (s.length<100000)&&decide (xs.length<10000)
def widthL:List Int:=[128,176,208,240,128,167,197,227,128,158,187,216,123,150,178,205,116,142,169,195,111,135,160,185,105,128,152,175,100,122,144,166,95,116,137,158,90,110,130,150,85,104,123,142,81,99,117,135,77,94,111,128,73,89,105,122,69,85,100,116,66,80,95,110,62,76,90,104,59,72,86,99,56,69,81,94,53,65,77,89,51,62,73,85,48,59,69,80,46,56,66,76,43,53,63,72,41,50,59,69,39,48,56,65,37,45,54,62,35,43,51,59,33,41,48,56,32,39,46,53,30,37,43,50,29,35,41,48,27,33,39,45,26,31,37,43,24,30,35,41,23,28,33,39,22,27,32,37,21,26,30,35,20,24,29,33,19,23,27,31,18,22,26,30,17,21,25,28,16,20,23,27,15,19,22,25,14,18,21,24,14,17,20,23,13,16,19,22,12,15,18,21,12,14,17,20,11,14,16,19,11,13,15,18,10,12,15,17,10,12,14,16,9,11,13,15,9,11,12,14,8,10,12,14,8,9,11,13,7,9,11,12,7,9,10,12,7,8,10,11,6,8,9,11,6,7,9,10,6,7,8,9,2,2,2,2]
def downL:List Int:=[0,0,1,2,2,4,4,5,6,7,8,9,9,11,11,12,13,13,15,15,16,16,18,18,19,19,21,21,22,22,23,24,24,25,26,26,27,27,28,29,29,30,30,30,31,32,32,33,33,33,34,34,35,35,35,36,36,36,37,37,37,38,38,63]
def Zz (state q:Int):Int:=widthL.getD (4*(state/2)+q).toNat 0
def zo (state:Int) (mps:Bool):Int:=
 if mps then (if state/2<62 then 2*(state/2+1)+state%2 else state)
 else if state/2=0 then 2*downL.getD 0 0+(1-state%2) else 2*downL.getD (state/2).toNat 0+state%2
def Zl (xs:List Int):List Int:=xs.map fun s=>if 0≤s∧s<128 then s else 0
structure Enc where
 st:List Int
 low:Int
 wid:Int
 outs:Nat
 begun:Bool
 over:Bool
 bits:List Int
def Enc.new (xs:List Int):Enc:=⟨Zl xs,0,510,0,false,false,[]⟩
def Enc.bit (e:Enc) (b:Int):Enc:={ e with bits:=e.bits++[b] }
def Enc.put (e:Enc) (b:Int):Enc:={ e with begun:=true,outs:=0,bits:=(if e.begun then e.bits++[b] else e.bits)++List.replicate e.outs (1-b) }
def Enc.shift (e:Enc):Enc:=
 let f:=if e.low<256 then e.put 0 else if 512≤e.low then { e with low:=e.low-512 }.put 1 else { e with low:=e.low-256,outs:=e.outs+1 }
 { f with wid:=2*f.wid,low:=2*f.low }
def Enc.norm:Nat→Enc→Enc
 |0,e=>e
 |k+1,e=>if e.wid<256 then Enc.norm k e.shift else e
def Enc.may (e:Enc) (b:Int):Bool:=(b==0||b==1)&& !e.over
def Enc.canBin (e:Enc) (c b:Int):Bool:=e.may b&&decide (0≤c∧c<e.st.length)
def Enc.narrow (e:Enc) (c:Nat) (b:Int):Enc:=
 let s:=e.st.getD c 0
 let less:=Zz s (e.wid/64%4)
 if b=s%2 then { e with wid:=e.wid-less,st:=e.st.set c (zo s true) }
 else { e with low:=e.low+(e.wid-less),wid:=less,st:=e.st.set c (zo s false) }
def Enc.bin (e:Enc) (c b:Int):Enc:=if e.canBin c b then Enc.norm 8 (e.narrow c.toNat b) else e
def Enc.half (e:Enc) (b:Int):Enc:=
 let l:=2*e.low+b*e.wid
 if 1024≤l then { e with low:=l-1024 }.put 1 else if l<512 then { e with low:=l }.put 0 else { e with low:=l-512,outs:=e.outs+1 }
def Enc.bypass (e:Enc) (b:Int):Enc:=if e.may b then e.half b else e
def Enc.last (e:Enc) (b:Int):Enc:=if b=1 then { e with low:=e.low+(e.wid-2),wid:=2 } else { e with wid:=e.wid-2 }
def Enc.close (e:Enc):Enc:={ ((e.put (e.low/512%2)).bit (e.low/256%2)).bit 1 with over:=true }
def Enc.term (e:Enc) (b:Int):Enc:=
 if e.may b then (if b=1 then (Enc.norm 8 (e.last b)).close else Enc.norm 8 (e.last b)) else e
def Zc (ok:Bool):Int:=if ok then 0 else 501
structure Enc.Ok (e:Enc):Prop where
 st:∀ i,0≤e.st.getD i 0∧e.st.getD i 0<128
 low:0≤e.low
 top:e.low+e.wid≤1024
 wid0:2≤e.wid
 wid1:e.wid≤510
 bits:∀ b∈e.bits,b=0∨b=1
def Enc.cost (e:Enc):Nat:=e.bits.length+e.outs
theorem Enc.cost_put (e:Enc) (b:Int):(e.put b).cost≤e.cost+1:=by
 unfold Enc.put Enc.cost
 cases e.begun<;>simp<;>omega
theorem Enc.ok_put (e:Enc) (b:Int) (hb:b=0∨b=1) (h:e.Ok):(e.put b).Ok:=by
 refine ⟨h.st,h.low,h.top,h.wid0,h.wid1,?_⟩;intro x hx;simp only [Enc.put,List.mem_append,List.mem_replicate] at hx
 rcases hx with hx|⟨_,rfl⟩
 ·split at hx
  ·rcases List.mem_append.1 hx with h1|h1
   ·exact h.bits x h1
   ·simp at h1;omega
  ·exact h.bits x hx
 ·omega
theorem Enc.ok_low (e:Enc) (l w:Int) (k:Nat) (h:e.Ok) (h0:0≤l) (h1:l+w≤1024) (h2:2≤w) (h3:w≤510):Enc.Ok { e with low:=l,wid:=w,outs:=k }:=
 ⟨h.st,h0,h1,h2,h3,h.bits⟩
theorem Enc.ok_shift (e:Enc) (h:e.Ok) (hw:e.wid<256):e.shift.Ok∧e.shift.wid=2*e.wid∧e.shift.cost≤e.cost+1:=by
 have hl:=h.low;have ht:=h.top;have h0:=h.wid0;unfold Enc.shift
 by_cases c1:e.low<256
 ·rw [if_pos c1];exact ⟨(e.put 0).ok_low _ _ _ (e.ok_put 0 (.inl rfl) h) (by show 0≤2*e.low;omega) (by show 2*e.low+2*e.wid≤1024;omega) (by show 2≤2*e.wid;omega) (by show 2*e.wid≤510;omega),rfl,e.cost_put 0⟩
 ·rw [if_neg c1]
  by_cases c2:512≤e.low
  ·rw [if_pos c2];have h1:Enc.Ok { e with low:=e.low-512 }:=e.ok_low _ _ _ h (by omega) (by omega) h0 h.wid1;exact ⟨(Enc.put { e with low:=e.low-512 } 1).ok_low _ _ _ (Enc.ok_put _ 1 (.inr rfl) h1) (by show 0≤2*(e.low-512);omega) (by show 2*(e.low-512)+2*e.wid≤1024;omega) (by show 2≤2*e.wid;omega) (by show 2*e.wid≤510;omega),rfl,Enc.cost_put { e with low:=e.low-512 } 1⟩
  ·rw [if_neg c2];exact ⟨e.ok_low _ _ _ h (by show 0≤2*(e.low-256);omega) (by show 2*(e.low-256)+2*e.wid≤1024;omega) (by show 2≤2*e.wid;omega) (by show 2*e.wid≤510;omega),rfl,by show e.bits.length+(e.outs+1)≤e.bits.length+e.outs+1;omega⟩
theorem Enc.norm_step (k:Nat) (e:Enc) (hw:e.wid<256):Enc.norm (k+1) e=Enc.norm k e.shift:=by
 show (if e.wid<256 then Enc.norm k e.shift else e)=_
 rw [if_pos hw]
theorem Enc.norm_done (k:Nat) (e:Enc) (hw:256≤e.wid):Enc.norm k e=e:=by
 cases k with
 |zero=>rfl
 |succ k=>show (if e.wid<256 then Enc.norm k e.shift else e)=e;rw [if_neg (by omega)]
theorem Enc.ok_norm (k:Nat):∀ e:Enc,e.Ok→256≤e.wid*2^k→(Enc.norm k e).Ok∧256≤(Enc.norm k e).wid∧(Enc.norm k e).cost≤e.cost+k:=by
 induction k with
 |zero=>intro e h hk;simp at hk;exact ⟨h,hk,Nat.le_refl _⟩
 |succ k ih=>
  intro e h hk
  by_cases hw:e.wid<256
  ·rw [Enc.norm_step k e hw];have h1:=e.ok_shift h hw;have h2:=ih e.shift h1.1 (by rw [h1.2.1,Int.mul_comm 2,Int.mul_assoc,Int.mul_comm 2,←Int.pow_succ];exact hk);exact ⟨h2.1,h2.2.1,by omega⟩
  ·rw [Enc.norm_done _ e (by omega)];exact ⟨h,by omega,by omega⟩
theorem zCH:∀ i,i<256→2≤widthL.getD i 0∧widthL.getD i 0≤240:=by decide
theorem zDA:∀ i,i<64→0≤downL.getD i 0∧downL.getD i 0<64:=by decide
theorem zBx (s q:Int) (h0:0≤s) (h1:s<128) (h2:0≤q) (h3:q<4):2≤Zz s q∧Zz s q≤240:=zCH _ (by omega)
theorem zCQ (s:Int) (m:Bool) (h0:0≤s) (h1:s<128):0≤zo s m∧zo s m<128:=by
 have a:=zDA 0 (by omega);have b:=zDA (s/2).toNat (by omega);unfold zo
 cases m
 ·rw [if_neg (by decide)]
  split<;>omega
 ·rw [if_pos rfl]
  split<;>omega
theorem zDW (xs:List Int) (i:Nat):0≤(Zl xs).getD i 0∧(Zl xs).getD i 0<128:=by
 unfold Zl
 by_cases h:i<xs.length
 ·simp only [List.getD,List.getElem?_map,List.getElem?_eq_getElem h,Option.map_some,Option.getD_some]
  split<;>omega
 ·simp [List.getD,h]
theorem Enc.ok_new (xs:List Int):(Enc.new xs).Ok:=⟨zDW xs,by simp [Enc.new],by simp [Enc.new],by simp [Enc.new],by simp [Enc.new],by simp [Enc.new]⟩
theorem zIY (xs:List Int) (c i:Nat) (v:Int):(xs.set c v).getD i 0=if c=i∧c<xs.length then v else xs.getD i 0:=by
 simp only [List.getD,List.getElem?_set]
 by_cases h:c=i
 ·subst h
  by_cases h2:c<xs.length<;>simp [h2]
 ·simp [h]
theorem Enc.ok_set (e:Enc) (c:Nat) (v:Int) (h:e.Ok) (h0:0≤v) (h1:v<128):Enc.Ok { e with st:=e.st.set c v }:=by
 refine ⟨fun i=>?_,h.low,h.top,h.wid0,h.wid1,h.bits⟩;have:=h.st i
 show 0≤(e.st.set c v).getD i 0∧(e.st.set c v).getD i 0<128
 rw [zIY]
 split<;>omega
theorem Enc.ok_narrow (e:Enc) (c:Nat) (b:Int) (h:e.Ok) (hw:256≤e.wid):(e.narrow c b).Ok∧(e.narrow c b).cost=e.cost∧256≤(e.narrow c b).wid*2^8:=by
 have hs:=h.st c;have hl:=zBx (e.st.getD c 0) (e.wid/64%4) hs.1 hs.2 (by omega) (by omega);have h1:=h.wid1;have h2:=h.low;have h3:=h.top;unfold Enc.narrow;dsimp only
 split
 ·refine ⟨?_,rfl,?_⟩
  ·have:=zCQ (e.st.getD c 0) true hs.1 hs.2;exact Enc.ok_set { e with wid:=e.wid-Zz (e.st.getD c 0) (e.wid/64%4) } c _ (e.ok_low _ _ _ h (by omega) (by omega) (by omega) (by omega)) this.1 this.2
  ·show 256≤(e.wid-Zz (e.st.getD c 0) (e.wid/64%4))*2^8
   omega
 ·refine ⟨?_,rfl,?_⟩
  ·have:=zCQ (e.st.getD c 0) false hs.1 hs.2;exact Enc.ok_set { e with low:=e.low+(e.wid-Zz (e.st.getD c 0) (e.wid/64%4)),wid:=Zz (e.st.getD c 0) (e.wid/64%4) } c _ (e.ok_low _ _ _ h (by omega) (by omega) (by omega) (by omega)) this.1 this.2
  ·show 256≤Zz (e.st.getD c 0) (e.wid/64%4)*2^8
   omega
structure Enc.Good (e:Enc):Prop where
 ok:e.Ok
 wide:256≤e.wid
theorem Enc.good_bin (e:Enc) (c b:Int) (h:e.Good):(e.bin c b).Good∧(e.bin c b).cost≤e.cost+8:=by
 unfold Enc.bin
 split
 ·have h1:=e.ok_narrow c.toNat b h.ok h.wide;have h2:=Enc.ok_norm 8 _ h1.1 h1.2.2;exact ⟨⟨h2.1,h2.2.1⟩,by rw [←h1.2.1];exact h2.2.2⟩
 ·exact ⟨h,by omega⟩
theorem Enc.good_half (e:Enc) (b:Int) (hb:b=0∨b=1) (h:e.Good):(e.half b).Good∧(e.half b).cost≤e.cost+1:=by
 have h1:=h.ok.wid1;have h2:=h.ok.low;have h3:=h.ok.top;have h4:=h.wide;obtain ⟨m,hm,hm2⟩:∃ m,b*e.wid=m∧(m=0∨m=e.wid):=by rcases hb with rfl|rfl<;>simp
 unfold Enc.half;dsimp only;rw [hm]
 by_cases c1:1024≤2*e.low+m
 ·rw [if_pos c1];have:Enc.Ok { e with low:=2*e.low+m-1024 }:=e.ok_low _ _ _ h.ok (by omega) (by omega) (by omega) (by omega);exact ⟨⟨Enc.ok_put _ 1 (.inr rfl) this,h4⟩,Enc.cost_put { e with low:=2*e.low+m-1024 } 1⟩
 ·rw [if_neg c1]
  by_cases c2:2*e.low+m<512
  ·rw [if_pos c2];have:Enc.Ok { e with low:=2*e.low+m }:=e.ok_low _ _ _ h.ok (by omega) (by omega) (by omega) (by omega);exact ⟨⟨Enc.ok_put _ 0 (.inl rfl) this,h4⟩,Enc.cost_put { e with low:=2*e.low+m } 0⟩
  ·rw [if_neg c2];exact ⟨⟨e.ok_low _ _ _ h.ok (by omega) (by omega) (by omega) (by omega),h4⟩,by show e.bits.length+(e.outs+1)≤e.bits.length+e.outs+1;omega⟩
theorem Enc.may_bit (e:Enc) (b:Int) (h:e.may b=true):(b=0∨b=1)∧e.over=false:=by
 unfold Enc.may at h
 simpa using h
theorem Enc.good_bypass (e:Enc) (b:Int) (h:e.Good):(e.bypass b).Good∧(e.bypass b).cost≤e.cost+1:=by
 unfold Enc.bypass
 split
 ·rename_i hb;exact e.good_half b (e.may_bit b hb).1 h
 ·exact ⟨h,by omega⟩
theorem Enc.ok_last (e:Enc) (b:Int) (h:e.Good):(e.last b).Ok∧(e.last b).cost=e.cost∧256≤(e.last b).wid*2^8:=by
 have h1:=h.ok.wid1;have h2:=h.ok.low;have h3:=h.ok.top;have h4:=h.wide;unfold Enc.last
 split
 ·exact ⟨e.ok_low _ _ _ h.ok (by omega) (by omega) (by omega) (by omega),rfl,by show 256≤(2:Int)*2^8;omega⟩
 ·exact ⟨e.ok_low _ _ _ h.ok (by omega) (by omega) (by omega) (by omega),rfl,by show 256≤(e.wid-2)*2^8;omega⟩
theorem Enc.ok_bit (e:Enc) (b:Int) (hb:b=0∨b=1) (h:e.Ok):(e.bit b).Ok:=by
 refine ⟨h.st,h.low,h.top,h.wid0,h.wid1,?_⟩;intro x hx
 rcases List.mem_append.1 hx with h1|h1
 ·exact h.bits x h1
 ·simp at h1;omega
theorem Enc.good_close (e:Enc) (h:e.Good):e.close.Good∧e.close.cost≤e.cost+3:=by
 have h1:=Enc.ok_bit _ 1 (.inr rfl) (Enc.ok_bit _ (e.low/256%2) (by omega) (Enc.ok_put e (e.low/512%2) (by omega) h.ok));refine ⟨⟨⟨h1.st,h1.low,h1.top,h1.wid0,h1.wid1,h1.bits⟩,h.wide⟩,?_⟩;have h2:=e.cost_put (e.low/512%2);unfold Enc.cost at h2;simp only [Enc.close,Enc.bit,Enc.cost,List.length_append,List.length_singleton];omega
theorem Enc.good_term (e:Enc) (b:Int) (h:e.Good):(e.term b).Good∧(e.term b).cost≤e.cost+11:=by
 have h1:=e.ok_last b h;have h2:=Enc.ok_norm 8 _ h1.1 h1.2.2;unfold Enc.term
 split
 ·split
  ·have h3:=Enc.good_close _ ⟨h2.1,h2.2.1⟩;exact ⟨h3.1,by omega⟩
  ·exact ⟨⟨h2.1,h2.2.1⟩,by omega⟩
 ·exact ⟨h,by omega⟩
def Zh (bs:List Int) (i:Nat):Int:=
 128*bs.getD (8*i) 0+64*bs.getD (8*i+1) 0+32*bs.getD (8*i+2) 0+16*bs.getD (8*i+3) 0+8*bs.getD (8*i+4) 0+4*bs.getD (8*i+5) 0+2*bs.getD (8*i+6) 0+bs.getD (8*i+7) 0
def ZP (bs:List Int):List Int:=(List.range ((bs.length+7)/8)).map (Zh bs)
def zBT (bs:List Int):List Int:=(List.range (bs.length/8+1)).map (Zh bs)
theorem zR (bs:List Int):(ZP bs).length=(bs.length+7)/8:=by simp [ZP]
theorem zDJ (bs:List Int):(zBT bs).length=bs.length/8+1:=by simp [zBT]
theorem zE (bs:List Int) (i:Nat) (h:bs.length≤i):bs.getD i 0=0:=by simp [List.getD,h]
theorem zFw (bs:List Int) (h:bs.length%8=0):zBT bs=ZP bs++[0]:=by
 have h1:bs.length/8+1=(bs.length+7)/8+1:=by omega
 unfold zBT ZP;rw [h1,List.range_succ,List.map_append,List.map_singleton]
 congr 2
 unfold Zh;rw [zE,zE,zE,zE,zE,zE,zE,zE]<;>omega
theorem zFv (bs:List Int) (h:bs.length%8≠0):zBT bs=ZP bs:=by
 have h1:bs.length/8+1=(bs.length+7)/8:=by omega
 unfold zBT ZP;rw [h1]
def zAW (n:Nat):Int:=[128,64,32,16,8,4,2,1].getD (n%8) 0
theorem zKT (bs:List Int) (b:Int) (i:Nat):(bs++[b]).getD i 0=if i=bs.length then b else bs.getD i 0:=by
 simp only [List.getD]
 by_cases h:i<bs.length
 ·rw [List.getElem?_append_left h,if_neg (by omega)]
 ·rw [List.getElem?_append_right (by omega)]
  by_cases h2:i=bs.length
  ·subst h2;simp
  ·rw [if_neg h2,List.getElem?_eq_none (by simp;omega),List.getElem?_eq_none (by omega)]
theorem zEr (n:Nat):(n%8=0∧zAW n=128)∨(n%8=1∧zAW n=64)∨(n%8=2∧zAW n=32)∨(n%8=3∧zAW n=16)∨(n%8=4∧zAW n=8)∨(n%8=5∧zAW n=4)∨(n%8=6∧zAW n=2)∨(n%8=7∧zAW n=1):=by
 have:n%8<8:=Nat.mod_lt _ (by decide);unfold zAW
 rcases (show n%8=0∨n%8=1∨n%8=2∨n%8=3∨n%8=4∨n%8=5∨n%8=6∨n%8=7 by omega) with h|h|h|h|h|h|h|h<;>rw [h]<;>simp
theorem zFN (bs:List Int) (b:Int) (i:Nat):Zh (bs++[b]) i=Zh bs i+(if i=bs.length/8 then b*zAW bs.length else 0):=by
 unfold Zh;simp only [zKT];have hz:=zE bs bs.length (Nat.le_refl _)
 by_cases h:i=bs.length/8
 ·rw [if_pos h]
  rcases zEr bs.length with ⟨h1,h2⟩|⟨h1,h2⟩|⟨h1,h2⟩|⟨h1,h2⟩|⟨h1,h2⟩|⟨h1,h2⟩|⟨h1,h2⟩|⟨h1,h2⟩<;>rw [h2]
  ·have e:8*i=bs.length:=by omega
   rw [e,hz];simp;omega
  ·have e:8*i+1=bs.length:=by omega
   rw [e,hz];simp [show ¬ 8*i=bs.length by omega,show ¬ 8*i+2=bs.length by omega,show ¬ 8*i+3=bs.length by omega,show ¬ 8*i+4=bs.length by omega,show ¬ 8*i+5=bs.length by omega,show ¬ 8*i+6=bs.length by omega,show ¬ 8*i+7=bs.length by omega];omega
  ·have e:8*i+2=bs.length:=by omega
   rw [e,hz];simp [show ¬ 8*i=bs.length by omega,show ¬ 8*i+1=bs.length by omega,show ¬ 8*i+3=bs.length by omega,show ¬ 8*i+4=bs.length by omega,show ¬ 8*i+5=bs.length by omega,show ¬ 8*i+6=bs.length by omega,show ¬ 8*i+7=bs.length by omega];omega
  ·have e:8*i+3=bs.length:=by omega
   rw [e,hz];simp [show ¬ 8*i=bs.length by omega,show ¬ 8*i+1=bs.length by omega,show ¬ 8*i+2=bs.length by omega,show ¬ 8*i+4=bs.length by omega,show ¬ 8*i+5=bs.length by omega,show ¬ 8*i+6=bs.length by omega,show ¬ 8*i+7=bs.length by omega];omega
  ·have e:8*i+4=bs.length:=by omega
   rw [e,hz];simp [show ¬ 8*i=bs.length by omega,show ¬ 8*i+1=bs.length by omega,show ¬ 8*i+2=bs.length by omega,show ¬ 8*i+3=bs.length by omega,show ¬ 8*i+5=bs.length by omega,show ¬ 8*i+6=bs.length by omega,show ¬ 8*i+7=bs.length by omega];omega
  ·have e:8*i+5=bs.length:=by omega
   rw [e,hz];simp [show ¬ 8*i=bs.length by omega,show ¬ 8*i+1=bs.length by omega,show ¬ 8*i+2=bs.length by omega,show ¬ 8*i+3=bs.length by omega,show ¬ 8*i+4=bs.length by omega,show ¬ 8*i+6=bs.length by omega,show ¬ 8*i+7=bs.length by omega];omega
  ·have e:8*i+6=bs.length:=by omega
   rw [e,hz];simp [show ¬ 8*i=bs.length by omega,show ¬ 8*i+1=bs.length by omega,show ¬ 8*i+2=bs.length by omega,show ¬ 8*i+3=bs.length by omega,show ¬ 8*i+4=bs.length by omega,show ¬ 8*i+5=bs.length by omega,show ¬ 8*i+7=bs.length by omega];omega
  ·have e:8*i+7=bs.length:=by omega
   rw [e,hz];simp [show ¬ 8*i=bs.length by omega,show ¬ 8*i+1=bs.length by omega,show ¬ 8*i+2=bs.length by omega,show ¬ 8*i+3=bs.length by omega,show ¬ 8*i+4=bs.length by omega,show ¬ 8*i+5=bs.length by omega,show ¬ 8*i+6=bs.length by omega]
 ·rw [if_neg h];rw [if_neg (by omega),if_neg (by omega),if_neg (by omega),if_neg (by omega),if_neg (by omega),if_neg (by omega),if_neg (by omega),if_neg (by omega)];omega
theorem zEu (bs:List Int) (b:Int):ZP (bs++[b])=(zBT bs).set (bs.length/8) (Zh bs (bs.length/8)+b*zAW bs.length):=by
 apply List.ext_getElem?
 intro i;unfold ZP zBT;have hl:((bs++[b]).length+7)/8=bs.length/8+1:=by simp;omega
 rw [hl]
 by_cases h:i<bs.length/8+1
 ·rw [List.getElem?_set]
  by_cases h2:bs.length/8=i
  ·subst h2;simp [zFN]
  ·rw [if_neg h2];simp [h,zFN,show ¬ i=bs.length/8 by omega]
 ·rw [List.getElem?_eq_none (by simp;omega),List.getElem?_eq_none (by simp;omega)]
theorem zAr (bs:List Int) (h:∀ b∈bs,b=0∨b=1) (i:Nat):bs.getD i 0=0∨bs.getD i 0=1:=by
 by_cases hi:i<bs.length
 ·simp only [List.getD,List.getElem?_eq_getElem hi,Option.getD_some];exact h _ (List.getElem_mem hi)
 ·left;exact zE bs i (by omega)
theorem zBY (bs:List Int) (h:∀ b∈bs,b=0∨b=1) (i:Nat):0≤Zh bs i∧Zh bs i≤255:=by
 have a0:=zAr bs h (8*i);have a1:=zAr bs h (8*i+1);have a2:=zAr bs h (8*i+2);have a3:=zAr bs h (8*i+3);have a4:=zAr bs h (8*i+4);have a5:=zAr bs h (8*i+5);have a6:=zAr bs h (8*i+6);have a7:=zAr bs h (8*i+7);unfold Zh;omega
theorem zGA (bs:List Int):Zh bs (bs.length/8)%(2*zAW bs.length)=0:=by
 unfold Zh;generalize hi:bs.length/8=i
 rcases zEr bs.length with ⟨h1,h2⟩|⟨h1,h2⟩|⟨h1,h2⟩|⟨h1,h2⟩|⟨h1,h2⟩|⟨h1,h2⟩|⟨h1,h2⟩|⟨h1,h2⟩<;>rw [h2]
 ·rw [zE bs (8*i) (by omega),zE bs (8*i+1) (by omega),zE bs (8*i+2) (by omega),zE bs (8*i+3) (by omega),zE bs (8*i+4) (by omega),zE bs (8*i+5) (by omega),zE bs (8*i+6) (by omega),zE bs (8*i+7) (by omega)];omega
 ·rw [zE bs (8*i+1) (by omega),zE bs (8*i+2) (by omega),zE bs (8*i+3) (by omega),zE bs (8*i+4) (by omega),zE bs (8*i+5) (by omega),zE bs (8*i+6) (by omega),zE bs (8*i+7) (by omega)];omega
 ·rw [zE bs (8*i+2) (by omega),zE bs (8*i+3) (by omega),zE bs (8*i+4) (by omega),zE bs (8*i+5) (by omega),zE bs (8*i+6) (by omega),zE bs (8*i+7) (by omega)];omega
 ·rw [zE bs (8*i+3) (by omega),zE bs (8*i+4) (by omega),zE bs (8*i+5) (by omega),zE bs (8*i+6) (by omega),zE bs (8*i+7) (by omega)];omega
 ·rw [zE bs (8*i+4) (by omega),zE bs (8*i+5) (by omega),zE bs (8*i+6) (by omega),zE bs (8*i+7) (by omega)];omega
 ·rw [zE bs (8*i+5) (by omega),zE bs (8*i+6) (by omega),zE bs (8*i+7) (by omega)];omega
 ·rw [zE bs (8*i+6) (by omega),zE bs (8*i+7) (by omega)];omega
 ·rw [zE bs (8*i+7) (by omega)];omega
def zg (s:ByteArray) (i:Nat):Int:=(((s.data.toList.getD (i/8) 0).toNat/2^(7-i%8)%2:Nat):Int)
theorem zDV (s:ByteArray) (i:Nat):zg s i=0∨zg s i=1:=by unfold zg;omega
def zL (s:ByteArray) (p:Nat):Nat→Int
 |0=>0
 |n+1=>2*zL s p n+zg s (p+n)
theorem zAS (s:ByteArray) (p n:Nat):0≤zL s p n∧zL s p n<2^n:=by
 induction n with
 |zero=>simp [zL]
 |succ n ih=>
  have:=zDV s (p+n);rw [Int.pow_succ];unfold zL;omega
def zAh:Nat→Int→Nat
 |0,_=>0
 |k+1,w=>if w<256 then zAh k (2*w)+1 else 0
theorem zCR (k:Nat) (w:Int) (h:w<256):zAh (k+1) w=zAh k (2*w)+1:=by
 show (if w<256 then zAh k (2*w)+1 else 0)=_
 rw [if_pos h]
theorem zCS (k:Nat) (w:Int) (h:256≤w):zAh k w=0:=by
 cases k with
 |zero=>rfl
 |succ k=>show (if w<256 then zAh k (2*w)+1 else 0)=0;rw [if_neg (by omega)]
theorem zMf (k:Nat):∀ w:Int,zAh k w≤k:=by
 induction k with
 |zero=>intro w;simp [zAh]
 |succ k ih=>
  intro w
  by_cases h:w<256
  ·rw [zCR k w h];have:=ih (2*w);omega
  ·rw [zCS _ w (by omega)];omega
theorem zE0 (k:Nat):∀ w:Int,256≤w*2^k→256≤w*2^zAh k w:=by
 induction k with
 |zero=>intro w h;simpa [zAh] using h
 |succ k ih=>
  intro w h
  by_cases hw:w<256
  ·rw [zCR k w hw,Int.pow_succ,Int.mul_comm _ 2,←Int.mul_assoc,Int.mul_comm w 2];exact ih (2*w) (by rw [Int.mul_comm 2,Int.mul_assoc,Int.mul_comm 2,←Int.pow_succ];exact h)
  ·rw [zCS _ w (by omega)];simp;omega
theorem zIQ (k:Nat):∀ w:Int,w≤510→w*2^zAh k w≤510:=by
 induction k with
 |zero=>intro w h;simpa [zAh] using h
 |succ k ih=>
  intro w h
  by_cases hw:w<256
  ·rw [zCR k w hw,Int.pow_succ,Int.mul_comm _ 2,←Int.mul_assoc,Int.mul_comm w 2];exact ih (2*w) (by omega)
  ·rw [zCS _ w (by omega)];simp;omega
structure Dec where
 st:List Int
 s:ByteArray
 pos:Nat
 wid:Int
 off:Int
 over:Bool
def Dec.has (d:Dec) (n:Nat):Bool:=decide (d.pos+n≤8*d.s.size)
def Dec.begin (s:ByteArray) (xs:List Int):Dec:=⟨Zl xs,s,9,510,zL s 0 9,false⟩
def Dec.normal (d:Dec) (w o:Int):Dec:={ d with wid:=w*2^zAh 8 w,off:=o*2^zAh 8 w+zL d.s d.pos (zAh 8 w),pos:=d.pos+zAh 8 w }
def Dec.lessOf (d:Dec) (c:Nat):Int:=Zz (d.st.getD c 0) (d.wid/64%4)
def Dec.split (d:Dec) (c:Nat):Int×Int×Int:=
 let s:=d.st.getD c 0
 let less:=d.lessOf c
 if d.wid-less≤d.off then (1-s%2,less,d.off-(d.wid-less)) else (s%2,d.wid-less,d.off)
def Dec.can (d:Dec) (c:Int):Bool:= !d.over&&decide (0≤c∧c<d.st.length)
def Dec.bin (d:Dec) (c:Int):Int×Int×Dec:=
 if d.can c then
  let p:=d.split c.toNat
  if d.has (zAh 8 p.2.1) then (p.1,0,{ d.normal p.2.1 p.2.2 with st:=d.st.set c.toNat (zo (d.st.getD c.toNat 0) (p.1==d.st.getD c.toNat 0%2)) }) else (0,500,d)
 else (0,501,d)
def Dec.bypass (d:Dec):Int×Int×Dec:=
 if d.over then (0,501,d) else if d.has 1 then
  (let o:=2*d.off+zg d.s d.pos
   if d.wid≤o then (1,0,{ d with off:=o-d.wid,pos:=d.pos+1 }) else (0,0,{ d with off:=o,pos:=d.pos+1 }))
 else (0,500,d)
def Dec.term (d:Dec):Int×Int×Dec:=
 if d.over then (0,501,d) else if d.wid-2≤d.off then (1,0,{ d with wid:=d.wid-2,over:=true })
 else if d.has (zAh 8 (d.wid-2)) then (0,0,d.normal (d.wid-2) d.off) else (0,500,d)
structure Dec.Ok (d:Dec):Prop where
 st:∀ i,0≤d.st.getD i 0∧d.st.getD i 0<128
 off0:0≤d.off
 off1:d.over=false→d.off<d.wid
 wid0:254≤d.wid
 wid2:d.over=false→256≤d.wid
 wid1:d.wid≤510
 top:d.off<510
 pos:d.pos≤8*d.s.size
theorem Dec.ok_normal (d:Dec) (w o:Int) (h:d.Ok) (w0:2≤w) (w1:w≤510) (o0:0≤o) (o1:o<w) (hh:d.has (zAh 8 w)=true):(d.normal w o).Ok:=by
 have h1:=zE0 8 w (by omega);have h2:=zIQ 8 w w1;have h3:=zAS d.s d.pos (zAh 8 w);unfold Dec.has at hh;rw [decide_eq_true_eq] at hh;unfold Dec.normal;generalize zAh 8 w=n at*;generalize zL d.s d.pos n=r at*;have hp:(0:Int)<2^n:=Int.pow_pos (by decide);have h4:o*2^n+2^n≤w*2^n:=by
  have:(o+1)*2^n≤w*2^n:=Int.mul_le_mul_of_nonneg_right (by omega) (Int.le_of_lt hp)
  rwa [Int.add_mul,Int.one_mul] at this
 have h5:0≤o*2^n:=Int.mul_nonneg o0 (Int.le_of_lt hp);generalize o*2^n=oo at*;generalize w*2^n=ww at*;generalize (2:Int)^n=pp at*;exact ⟨h.st,by dsimp only;omega,fun _=>by dsimp only;omega,by dsimp only;omega,fun _=>by dsimp only;omega,h2,by dsimp only;omega,hh⟩
theorem Dec.ok_set (d:Dec) (c:Nat) (v:Int) (h:d.Ok) (h0:0≤v) (h1:v<128):Dec.Ok { d with st:=d.st.set c v }:=by
 refine ⟨fun i=>?_,h.off0,h.off1,h.wid0,h.wid2,h.wid1,h.top,h.pos⟩;have:=h.st i
 show 0≤(d.st.set c v).getD i 0∧(d.st.set c v).getD i 0<128
 rw [zIY]
 split<;>omega
theorem Dec.split_range (d:Dec) (c:Nat) (h:d.Ok) (hov:d.over=false):2≤(d.split c).2.1∧(d.split c).2.1≤510∧0≤(d.split c).2.2∧(d.split c).2.2<(d.split c).2.1∧((d.split c).1=0∨(d.split c).1=1):=by
 have hs:=h.st c;have hl:=zBx (d.st.getD c 0) (d.wid/64%4) hs.1 hs.2 (by omega) (by omega);have h1:=h.wid1;have h2:=h.wid2 hov;have h3:=h.off1 hov;have h4:=h.off0;unfold Dec.split Dec.lessOf;dsimp only
 split<;>dsimp only<;>omega
theorem Dec.ok_bin (d:Dec) (c:Int) (h:d.Ok):(d.bin c).2.2.Ok:=by
 unfold Dec.bin
 by_cases hc:d.can c=true
 ·rw [if_pos hc];dsimp only;unfold Dec.can at hc;rw [Bool.and_eq_true] at hc;have hov:d.over=false:=by simpa using hc.1
  have hs:=d.split_range c.toNat h hov
  by_cases hh:d.has (zAh 8 (d.split c.toNat).2.1)=true
  ·rw [if_pos hh];have h1:=d.ok_normal _ _ h hs.1 hs.2.1 hs.2.2.1 hs.2.2.2.1 hh;have h2:=h.st c.toNat;have h3:=zCQ (d.st.getD c.toNat 0) ((d.split c.toNat).1==d.st.getD c.toNat 0%2) h2.1 h2.2;exact (d.normal _ _).ok_set c.toNat _ h1 h3.1 h3.2
  ·rw [if_neg hh];exact h
 ·rw [if_neg hc];exact h
theorem Dec.ok_bypass (d:Dec) (h:d.Ok):d.bypass.2.2.Ok:=by
 have hb:=zDV d.s d.pos;have h1:=h.wid1;have h4:=h.off0;unfold Dec.bypass
 cases hov:d.over
 ·have h2:=h.wid2 hov;have h3:=h.off1 hov;simp only [Bool.false_eq_true,if_false]
  by_cases hh:d.has 1=true
  ·rw [if_pos hh];unfold Dec.has at hh;rw [decide_eq_true_eq] at hh
   split
   ·exact ⟨h.st,by dsimp only;omega,fun _=>by dsimp only;omega,h.wid0,fun _=>h2,h.wid1,by dsimp only;omega,hh⟩
   ·exact ⟨h.st,by dsimp only;omega,fun _=>by dsimp only;omega,h.wid0,fun _=>h2,h.wid1,by dsimp only;omega,hh⟩
  ·rw [if_neg hh];exact h
 ·simp only [if_true];exact h
theorem Dec.ok_term (d:Dec) (h:d.Ok):d.term.2.2.Ok:=by
 have h1:=h.wid1;have h4:=h.off0;unfold Dec.term
 cases hov:d.over
 ·have h2:=h.wid2 hov;have h3:=h.off1 hov;simp only [Bool.false_eq_true,if_false]
  by_cases hw:d.wid-2≤d.off
  ·rw [if_pos hw];exact ⟨h.st,h.off0,fun e=>(nomatch e),by dsimp only;omega,fun e=>(nomatch e),by dsimp only;omega,h.top,h.pos⟩
  ·rw [if_neg hw]
   by_cases hh:d.has (zAh 8 (d.wid-2))=true
   ·rw [if_pos hh];exact d.ok_normal _ _ h (by omega) (by omega) h4 (by omega) hh
   ·rw [if_neg hh];exact h
 ·simp only [if_true];exact h
def Zs (bs:List Int):Int:=bs.foldl (fun x b=>2*x+b) 0
theorem zBA (bs:List Int) (b:Int):Zs (bs++[b])=2*Zs bs+b:=by simp [Zs]
theorem zGu (bs:List Int) (c:Int) (n:Nat):Zs (bs++List.replicate n c)=Zs bs*2^n+c*(2^n-1):=by
 induction n with
 |zero=>simp
 |succ n ih=>
  rw [List.replicate_succ',←List.append_assoc,zBA,ih,Int.pow_succ];generalize (2:Int)^n=p;generalize Zs bs=v;have e1:v*(p*2)=2*(v*p):=by rw [Int.mul_comm p 2,←Int.mul_assoc,Int.mul_comm v 2,Int.mul_assoc]
  have e2:c*(p*2-1)=2*(c*p)-c:=by rw [Int.mul_sub,Int.mul_comm p 2,←Int.mul_assoc,Int.mul_comm c 2,Int.mul_assoc];omega
  have e3:c*(p-1)=c*p-c:=by rw [Int.mul_sub];omega
  rw [e1,e2,e3];omega
theorem zEi (n:Nat):(1:Int)≤2^n:=by
 have:(0:Int)<2^n:=Int.pow_pos (by decide);omega
def Enc.exact (e:Enc):Int:=e.low+512*(2^e.outs-1)+1024*(Zs e.bits*2^e.outs)
def Enc.steps (e:Enc):Nat:=e.outs+if e.begun then e.bits.length+1 else 0
structure Enc.Fit (e:Enc):Prop where
 ok:e.Ok
 none:e.begun=false→e.bits=[]
 top:e.exact+e.wid≤510*2^e.steps
theorem Enc.put_steps (e:Enc) (b:Int) (h:e.begun=false→e.bits=[]):(e.put b).steps=e.steps+1:=by
 unfold Enc.put Enc.steps
 cases hb:e.begun
 ·rw [h hb];simp
 ·simp;omega
theorem Enc.put_zero (e:Enc) (h:e.begun=false→e.bits=[]):(e.put 0).exact=e.low+1024*(2*(Zs e.bits*2^e.outs)+2^e.outs-1):=by
 have hp:Zs (e.put 0).bits=2*(Zs e.bits*2^e.outs)+2^e.outs-1:=by
  unfold Enc.put;dsimp only;rw [zGu]
  cases hb:e.begun
  ·rw [h hb,if_neg (by decide),show Zs []=0 from rfl,Int.zero_mul,Int.sub_zero,Int.one_mul,Int.mul_zero,Int.zero_add,Int.zero_add]
  ·rw [if_pos rfl,zBA,Int.add_zero,Int.mul_assoc,Int.sub_zero,Int.one_mul];omega
 unfold Enc.exact;rw [hp]
 show e.low+512*(2^0-1)+1024*(_*2^0)=_
 omega
theorem Enc.put_one (e:Enc) (h:e.begun=true):(e.put 1).exact=e.low+1024*(2*(Zs e.bits*2^e.outs)+2^e.outs):=by
 have hp:Zs (e.put 1).bits=2*(Zs e.bits*2^e.outs)+2^e.outs:=by
  unfold Enc.put;dsimp only;rw [zGu,if_pos h,zBA,Int.add_mul,Int.mul_assoc];omega
 unfold Enc.exact;rw [hp]
 show e.low+512*(2^0-1)+1024*(_*2^0)=_
 omega
theorem Enc.first_low (e:Enc) (h:e.begun=false→e.bits=[]) (ht:e.exact+e.wid≤510*2^e.steps) (hb:e.begun=false):e.low+e.wid<512:=by
 unfold Enc.exact Enc.steps at ht;rw [h hb,hb] at ht;have hp:=zEi e.outs;simp [Zs] at ht;omega
theorem Enc.fit_shift (e:Enc) (h:e.Fit) (hw:e.wid<256):e.shift.Fit∧e.shift.exact=2*e.exact∧e.shift.steps=e.steps+1∧e.shift.wid=2*e.wid∧e.shift.st=e.st∧e.shift.over=e.over:=by
 have hs:=e.ok_shift h.ok hw;have htop:=h.top;have hlo:=h.ok.low;have hwd:=h.ok.wid0;have hall:e.shift.exact=2*e.exact∧e.shift.steps=e.steps+1∧(e.shift.begun=false→e.shift.bits=[])∧e.shift.st=e.st∧e.shift.over=e.over:=by
  unfold Enc.shift
  by_cases c1:e.low<256
  ·rw [if_pos c1];have h1:=e.put_zero h.none;have h2:=e.put_steps 0 h.none;refine ⟨?_,h2,(fun hb=>nomatch hb),rfl,rfl⟩;unfold Enc.exact at h1 ⊢;dsimp only;have h3:(e.put 0).outs=0:=rfl;have h4:(e.put 0).low=e.low:=rfl;rw [h3,h4] at h1 ⊢;generalize Zs e.bits*2^e.outs=q at*;generalize Zs (e.put 0).bits*2^0=r at*;generalize (2:Int)^e.outs=p at*;omega
  ·rw [if_neg c1]
   by_cases c2:512≤e.low
   ·rw [if_pos c2];have hb:e.begun=true:=by
     cases hb:e.begun
     ·have:=e.first_low h.none htop hb;omega
     ·rfl
    have h1:=Enc.put_one { e with low:=e.low-512 } hb;have h2:=Enc.put_steps { e with low:=e.low-512 } 1 h.none;refine ⟨?_,h2,(fun hb=>nomatch hb),rfl,rfl⟩;unfold Enc.exact at h1 ⊢;dsimp only at h1 ⊢;have h3:(Enc.put { e with low:=e.low-512 } 1).outs=0:=rfl;have h4:(Enc.put { e with low:=e.low-512 } 1).low=e.low-512:=rfl;rw [h3,h4] at h1 ⊢;generalize Zs e.bits*2^e.outs=q at*;generalize Zs (Enc.put { e with low:=e.low-512 } 1).bits*2^0=r at*;generalize (2:Int)^e.outs=p at*;omega
   ·rw [if_neg c2];refine ⟨?_,?_,h.none,rfl,rfl⟩
    ·unfold Enc.exact;dsimp only;have e1:Zs e.bits*2^(e.outs+1)=2*(Zs e.bits*2^e.outs):=by rw [Int.pow_succ,←Int.mul_assoc];omega
     rw [e1,Int.pow_succ];generalize Zs e.bits*2^e.outs=q at*;generalize (2:Int)^e.outs=p at*;omega
    ·unfold Enc.steps;dsimp only;omega
 obtain ⟨h1,h2,h3,h4,h5⟩:=hall;refine ⟨⟨hs.1,h3,?_⟩,h1,h2,hs.2.1,h4,h5⟩;rw [h1,h2,hs.2.1,Int.pow_succ];omega
theorem Enc.fit_norm (k:Nat):∀ e:Enc,e.Fit→256≤e.wid*2^k→
 (Enc.norm k e).Fit∧(Enc.norm k e).exact=e.exact*2^zAh k e.wid∧(Enc.norm k e).steps=e.steps+zAh k e.wid∧(Enc.norm k e).wid=e.wid*2^zAh k e.wid∧(Enc.norm k e).st=e.st∧(Enc.norm k e).over=e.over:=by
 induction k with
 |zero=>intro e h _;exact ⟨h,by simp [zAh,Enc.norm],by simp [zAh,Enc.norm],by simp [zAh,Enc.norm],rfl,rfl⟩
 |succ k ih=>
  intro e h hw
  by_cases hl:e.wid<256
  ·rw [Enc.norm_step k e hl,zCR k e.wid hl];obtain ⟨s1,s2,s3,s4,s5,s6⟩:=e.fit_shift h hl;obtain ⟨n1,n2,n3,n4,n5,n6⟩:=ih e.shift s1 (by rw [s4,Int.mul_comm 2,Int.mul_assoc,Int.mul_comm 2,←Int.pow_succ];exact hw);rw [s4] at n2 n3 n4;refine ⟨n1,?_,by omega,?_,n5.trans s5,n6.trans s6⟩
   ·rw [n2,s2,Int.pow_succ,Int.mul_comm 2 e.exact,Int.mul_assoc,Int.mul_comm 2]
   ·rw [n4,Int.pow_succ,Int.mul_comm 2 e.wid,Int.mul_assoc,Int.mul_comm 2]
  ·rw [Enc.norm_done _ e (by omega),zCS _ e.wid (by omega)];exact ⟨h,by simp,by simp,by simp,rfl,rfl⟩
structure Enc.Live (e:Enc):Prop where
 fit:e.Fit
 wide:256≤e.wid
 going:e.over=false
theorem Enc.Live.good {e:Enc} (h:e.Live):e.Good:=⟨h.fit.ok,h.wide⟩
theorem Enc.live_new (xs:List Int):(Enc.new xs).Live:=⟨⟨Enc.ok_new xs,fun _=>rfl,by simp [Enc.exact,Enc.steps,Enc.new,Zs]⟩,by simp [Enc.new],rfl⟩
def Enc.In (e:Enc) (K:Nat) (V:Int):Prop:=∃ m,e.steps+m=K∧e.exact*2^m≤V∧V<(e.exact+e.wid)*2^m
theorem Enc.in_nest {e f:Enc} {n K:Nat} {V:Int} (hs:f.steps=e.steps+n) (h0:e.exact*2^n≤f.exact) (h1:f.exact+f.wid≤(e.exact+e.wid)*2^n) (h:f.In K V):e.In K V:=by
 obtain ⟨m,g1,g2,g3⟩:=h;have hp:(0:Int)≤2^m:=by have:=zEi m;omega
 refine ⟨n+m,by omega,?_,?_⟩
 ·rw [Int.pow_add,←Int.mul_assoc];exact Int.le_trans (Int.mul_le_mul_of_nonneg_right h0 hp) g2
 ·rw [Int.pow_add,←Int.mul_assoc];exact Int.lt_of_lt_of_le g3 (Int.mul_le_mul_of_nonneg_right h1 hp)
theorem zFx (s:ByteArray) (p a b:Nat):zL s p (a+b)=zL s p a*2^b+zL s (p+a) b:=by
 induction b with
 |zero=>simp [zL]
 |succ b ih=>
  show 2*zL s p (a+b)+zg s (p+(a+b))=zL s p a*2^(b+1)+(2*zL s (p+a) b+zg s (p+a+b))
  rw [ih,Int.pow_succ,←Int.mul_assoc,Nat.add_assoc];omega
theorem Enc.in_read {e:Enc} {K:Nat} {s:ByteArray} (h:e.In K (zL s 0 (9+K))):e.exact≤zL s 0 (9+e.steps)∧zL s 0 (9+e.steps)<e.exact+e.wid∧e.steps≤K:=by
 obtain ⟨m,rfl,g2,g3⟩:=h;have hr:=zAS s (0+(9+e.steps)) m;rw [←Nat.add_assoc,zFx] at g2 g3;have hp:=zEi m;refine ⟨?_,?_,by omega⟩
 ·apply Int.not_lt.1
  intro hlt;have:=Int.mul_le_mul_of_nonneg_right (show zL s 0 (9+e.steps)+1≤e.exact by omega) (show (0:Int)≤2^m by omega);rw [Int.add_mul,Int.one_mul] at this;omega
 ·apply Int.not_le.1
  intro hle;have:=Int.mul_le_mul_of_nonneg_right hle (show (0:Int)≤2^m by omega);omega
structure Enc.Meets (e:Enc) (d:Dec):Prop where
 st:d.st=e.st
 wid:d.wid=e.wid
 pos:d.pos=9+e.steps
 off:d.off=zL d.s 0 (9+e.steps)-e.exact
 over:d.over=false
theorem Enc.narrow_same (e:Enc) (c:Nat) (b:Int):(e.narrow c b).steps=e.steps∧(e.narrow c b).over=e.over∧(e.narrow c b).begun=e.begun∧(e.narrow c b).bits=e.bits:=by
 unfold Enc.narrow;dsimp only;split<;>exact ⟨rfl,rfl,rfl,rfl⟩
theorem Enc.narrow_part (e:Enc) (c:Nat) (b:Int) (h:e.Live):
 let less:=Zz (e.st.getD c 0) (e.wid/64%4)
 2≤less∧less≤240∧(b=e.st.getD c 0%2→(e.narrow c b).exact=e.exact∧(e.narrow c b).wid=e.wid-less∧(e.narrow c b).st=e.st.set c (zo (e.st.getD c 0) true))∧
  (b≠e.st.getD c 0%2→(e.narrow c b).exact=e.exact+(e.wid-less)∧(e.narrow c b).wid=less∧(e.narrow c b).st=e.st.set c (zo (e.st.getD c 0) false)):=by
 have hs:=h.fit.ok.st c;have h1:=h.wide;have h2:=h.fit.ok.wid1;have hl:=zBx (e.st.getD c 0) (e.wid/64%4) hs.1 hs.2 (by omega) (by omega);refine ⟨hl.1,hl.2,fun hb=>?_,fun hb=>?_⟩
 ·unfold Enc.narrow;dsimp only;rw [if_pos hb];exact ⟨rfl,rfl,rfl⟩
 ·unfold Enc.narrow;dsimp only;rw [if_neg hb];refine ⟨?_,rfl,rfl⟩;unfold Enc.exact;dsimp only;omega
theorem Enc.fit_narrow (e:Enc) (c:Nat) (b:Int) (h:e.Live):(e.narrow c b).Fit∧e.exact≤(e.narrow c b).exact∧(e.narrow c b).exact+(e.narrow c b).wid≤e.exact+e.wid:=by
 obtain ⟨hl0,hl1,hy,hn⟩:=e.narrow_part c b h;have hok:=(e.ok_narrow c b h.fit.ok h.wide).1;have hsame:=e.narrow_same c b;have htop:=h.fit.top;have hwd:=h.wide;have hb2:e.exact≤(e.narrow c b).exact∧(e.narrow c b).exact+(e.narrow c b).wid≤e.exact+e.wid:=by
  by_cases hb:b=e.st.getD c 0%2
  ·obtain ⟨h1,h2,-⟩:=hy hb;omega
  ·obtain ⟨h1,h2,-⟩:=hn hb;omega
 refine ⟨⟨hok,?_,?_⟩,hb2⟩
 ·rw [hsame.2.2.1,hsame.2.2.2];exact h.fit.none
 ·rw [hsame.1];omega
theorem Enc.bin_is (e:Enc) (c:Nat) (b:Int) (h:e.Live) (hc:c<e.st.length) (hb:b=0∨b=1):e.bin c b=Enc.norm 8 (e.narrow c b):=by
 have hcan:e.canBin c b=true:=by
  unfold Enc.canBin Enc.may;rw [h.going];have:c<e.st.length:=hc
  rcases hb with rfl|rfl<;>simp [this]
 unfold Enc.bin;rw [if_pos hcan,Int.toNat_natCast]
theorem Enc.live_norm {e f:Enc} (h:e.Fit) (hw:256≤e.wid*2^8) (ho:e.over=false) (hf:f=Enc.norm 8 e):
 f.Live∧f.exact=e.exact*2^zAh 8 e.wid∧f.steps=e.steps+zAh 8 e.wid∧f.wid=e.wid*2^zAh 8 e.wid∧f.st=e.st:=by
 obtain ⟨n1,n2,n3,n4,n5,n6⟩:=Enc.fit_norm 8 e h hw;rw [hf];exact ⟨⟨n1,by rw [n4];exact zE0 8 e.wid hw,n6.trans ho⟩,n2,n3,n4,n5⟩
theorem Enc.live_bin (e:Enc) (c:Nat) (b:Int) (h:e.Live) (hc:c<e.st.length) (hb:b=0∨b=1):
 (e.bin c b).Live∧(e.bin c b).st.length=e.st.length∧∃ n,(e.bin c b).steps=e.steps+n∧e.exact*2^n≤(e.bin c b).exact∧(e.bin c b).exact+(e.bin c b).wid≤(e.exact+e.wid)*2^n:=by
 obtain ⟨f1,f2,f3⟩:=e.fit_narrow c b h;have hsame:=e.narrow_same c b;have hok:=e.ok_narrow c b h.fit.ok h.wide;obtain ⟨n1,n2,n3,n4,n5⟩:=Enc.live_norm f1 hok.2.2 (hsame.2.1.trans h.going) (e.bin_is c b h hc hb);have hp:(0:Int)≤2^zAh 8 (e.narrow c b).wid:=by have:=zEi (zAh 8 (e.narrow c b).wid);omega
 refine ⟨n1,?_,zAh 8 (e.narrow c b).wid,by omega,?_,?_⟩
 ·rw [n5];unfold Enc.narrow;dsimp only;split<;>simp
 ·rw [n2];exact Int.mul_le_mul_of_nonneg_right f2 hp
 ·rw [n2,n4,←Int.add_mul];exact Int.mul_le_mul_of_nonneg_right f3 hp
theorem Dec.has_of (d:Dec) (n K:Nat) (h1:d.pos+n≤9+K) (h2:9+K≤8*d.s.size):d.has n=true:=by unfold Dec.has;simp;omega
theorem Enc.meets_norm {e f:Enc} {d:Dec} (K:Nat) (hf1:f.exact=e.exact*2^zAh 8 e.wid) (hf2:f.steps=e.steps+zAh 8 e.wid) (hf3:f.wid=e.wid*2^zAh 8 e.wid)
 (hpos:d.pos=9+e.steps) (o:Int) (ho:o=zL d.s 0 (9+e.steps)-e.exact) (hin:f.steps≤K) (hsz:9+K≤8*d.s.size):
 d.has (zAh 8 e.wid)=true∧(d.normal e.wid o).wid=f.wid∧(d.normal e.wid o).pos=9+f.steps∧(d.normal e.wid o).off=zL d.s 0 (9+f.steps)-f.exact:=by
 refine ⟨d.has_of _ K (by omega) hsz,hf3.symm,by unfold Dec.normal;dsimp only;omega,?_⟩;unfold Dec.normal;dsimp only;rw [hf2,hf1,←Nat.add_assoc,zFx,ho,Int.sub_mul,hpos,Nat.zero_add];omega
theorem Enc.meets_bin (e:Enc) (d:Dec) (c K:Nat) (b:Int) (h:e.Live) (hm:e.Meets d) (hc:c<e.st.length) (hb:b=0∨b=1) (hin:(e.bin c b).In K (zL d.s 0 (9+K))) (hsz:9+K≤8*d.s.size):
 ∃ d',d.bin c=(b,0,d')∧(e.bin c b).Meets d'∧d'.s=d.s:=by
 obtain ⟨f1,f2,f3⟩:=e.fit_narrow c b h;obtain ⟨hl0,hl1,hy,hn⟩:=e.narrow_part c b h;have hsame:=e.narrow_same c b;have hok:=e.ok_narrow c b h.fit.ok h.wide;have hst:=h.fit.ok.st c;obtain ⟨n1,n2,n3,n4,n5⟩:=Enc.live_norm f1 hok.2.2 (hsame.2.1.trans h.going) (e.bin_is c b h hc hb);have hin1:(e.narrow c b).In K (zL d.s 0 (9+K)):=Enc.in_nest n3 (by rw [n2];exact Int.le_refl _) (by rw [n2,n4,←Int.add_mul];exact Int.le_refl _) hin;have hr:=Enc.in_read hin1;have hrK:=(Enc.in_read hin).2.2;rw [hsame.1] at hr;have hcan:d.can c=true:=by
  unfold Dec.can;rw [hm.over,hm.st]
  simpa using hc
 have hlo:d.lessOf c=Zz (e.st.getD c 0) (e.wid/64%4):=by unfold Dec.lessOf;rw [hm.st,hm.wid]
 generalize hle:Zz (e.st.getD c 0) (e.wid/64%4)=less at*;have hoff:=hm.off;have hsplit:d.split c=(b,(e.narrow c b).wid,zL d.s 0 (9+(e.narrow c b).steps)-(e.narrow c b).exact)∧(e.narrow c b).st=e.st.set c (zo (e.st.getD c 0) (b==e.st.getD c 0%2)):=by
  unfold Dec.split;dsimp only;rw [hlo,hm.st,hm.wid,hsame.1]
  by_cases hbs:b=e.st.getD c 0%2
  ·obtain ⟨h1,h2,h3⟩:=hy hbs;rw [if_neg (by omega),h3,h1,h2,hoff];exact ⟨by rw [hbs],by rw [show (b==e.st.getD c 0%2)=true by simpa using hbs]⟩
  ·obtain ⟨h1,h2,h3⟩:=hn hbs;rw [if_pos (by omega),h3,h1,h2,hoff];refine ⟨?_,by rw [show (b==e.st.getD c 0%2)=false by simpa using hbs]⟩;rw [show (1-e.st.getD c 0%2:Int)=b by omega,show (zL d.s 0 (9+e.steps)-e.exact-(e.wid-less):Int)=zL d.s 0 (9+e.steps)-(e.exact+(e.wid-less)) by omega]
 obtain ⟨q1,q2,q3,q4⟩:=Enc.meets_norm (d:=d) K n2 n3 n4 (by rw [hm.pos,hsame.1]) _ rfl hrK hsz;refine ⟨{ d.normal (e.narrow c b).wid (zL d.s 0 (9+(e.narrow c b).steps)-(e.narrow c b).exact) with st:=d.st.set c (zo (d.st.getD c 0) (b==d.st.getD c 0%2)) },?_,⟨?_,q2,q3,q4,hm.over⟩,rfl⟩
 ·unfold Dec.bin;rw [if_pos hcan];dsimp only;rw [Int.toNat_natCast,hsplit.1];dsimp only;rw [if_pos q1]
 ·show d.st.set c (zo (d.st.getD c 0) (b==d.st.getD c 0%2))=_
  rw [n5,hsplit.2,hm.st]
theorem Enc.live_half (e:Enc) (b:Int) (h:e.Live) (hb:b=0∨b=1):
 (e.half b).Live∧(e.half b).st=e.st∧(e.half b).wid=e.wid∧(e.half b).steps=e.steps+1∧(e.half b).exact=2*e.exact+b*e.wid:=by
 have hg:=(e.good_half b hb h.good).1;have htop:=h.fit.top;have hlo:=h.fit.ok.low;have hlt:=h.fit.ok.top;have hwd:=h.wide;have hbw:b*e.wid=0∨b*e.wid=e.wid:=by rcases hb with rfl|rfl<;>simp
 have hall:(e.half b).st=e.st∧(e.half b).wid=e.wid∧(e.half b).steps=e.steps+1∧(e.half b).exact=2*e.exact+b*e.wid∧((e.half b).begun=false→(e.half b).bits=[])∧(e.half b).over=e.over:=by
  unfold Enc.half;dsimp only;generalize b*e.wid=bw at*
  by_cases c1:1024≤2*e.low+bw
  ·rw [if_pos c1];have hbg:e.begun=true:=by
    cases hbg:e.begun
    ·have:=e.first_low h.fit.none htop hbg;omega
    ·rfl
   refine ⟨rfl,rfl,Enc.put_steps _ 1 h.fit.none,?_,(fun hb=>nomatch hb),rfl⟩;rw [Enc.put_one { e with low:=2*e.low+bw-1024 } hbg];unfold Enc.exact;dsimp only;generalize Zs e.bits*2^e.outs=q at*;generalize (2:Int)^e.outs=p at*;omega
  ·rw [if_neg c1]
   by_cases c2:2*e.low+bw<512
   ·rw [if_pos c2];refine ⟨rfl,rfl,Enc.put_steps _ 0 h.fit.none,?_,(fun hb=>nomatch hb),rfl⟩;rw [Enc.put_zero { e with low:=2*e.low+bw } h.fit.none];unfold Enc.exact;dsimp only;generalize Zs e.bits*2^e.outs=q at*;generalize (2:Int)^e.outs=p at*;omega
   ·rw [if_neg c2];refine ⟨rfl,rfl,by unfold Enc.steps;dsimp only;omega,?_,h.fit.none,rfl⟩;unfold Enc.exact;dsimp only;have e1:Zs e.bits*2^(e.outs+1)=2*(Zs e.bits*2^e.outs):=by rw [Int.pow_succ,←Int.mul_assoc];omega
    rw [e1,Int.pow_succ];generalize Zs e.bits*2^e.outs=q at*;generalize (2:Int)^e.outs=p at*;omega
 obtain ⟨h1,h2,h3,h4,h5,h6⟩:=hall;refine ⟨⟨⟨hg.ok,h5,?_⟩,by omega,h6.trans h.going⟩,h1,h2,h3,h4⟩;rw [h2,h3,h4,Int.pow_succ];omega
theorem Enc.bypass_is (e:Enc) (b:Int) (h:e.Live) (hb:b=0∨b=1):e.bypass b=e.half b:=by
 have hcan:e.may b=true:=by
  unfold Enc.may;rw [h.going]
  rcases hb with rfl|rfl<;>simp
 unfold Enc.bypass;rw [if_pos hcan]
theorem Enc.live_bypass (e:Enc) (b:Int) (h:e.Live) (hb:b=0∨b=1):
 (e.bypass b).Live∧(e.bypass b).st=e.st∧(e.bypass b).wid=e.wid∧(e.bypass b).steps=e.steps+1∧(e.bypass b).exact=2*e.exact+b*e.wid:=by
 rw [e.bypass_is b h hb];exact e.live_half b h hb
theorem Enc.nest_bypass (e:Enc) (b:Int) (h:e.Live) (hb:b=0∨b=1):
 (e.bypass b).steps=e.steps+1∧e.exact*2^1≤(e.bypass b).exact∧(e.bypass b).exact+(e.bypass b).wid≤(e.exact+e.wid)*2^1:=by
 obtain ⟨-,-,h2,h3,h4⟩:=e.live_bypass b h hb;have hwd:=h.wide;have hbw:b*e.wid=0∨b*e.wid=e.wid:=by rcases hb with rfl|rfl<;>simp
 rw [h2,h3,h4];omega
theorem Enc.meets_bypass (e:Enc) (d:Dec) (K:Nat) (b:Int) (h:e.Live) (hm:e.Meets d) (hb:b=0∨b=1) (hin:(e.bypass b).In K (zL d.s 0 (9+K))) (hsz:9+K≤8*d.s.size):
 ∃ d',d.bypass=(b,0,d')∧(e.bypass b).Meets d'∧d'.s=d.s:=by
 obtain ⟨h0,h1,h2,h3,h4⟩:=e.live_bypass b h hb;have hr:=Enc.in_read hin;have hwd:=h.wide;rw [h2,h3,h4] at hr;have hh:d.has 1=true:=d.has_of 1 K (by have:=hm.pos;omega) hsz;have hr1:zL d.s 0 (9+(e.steps+1))=2*zL d.s 0 (9+e.steps)+zg d.s d.pos:=by rw [hm.pos];show 2*zL d.s 0 (9+e.steps)+zg d.s (0+(9+e.steps))=_;rw [Nat.zero_add]
 have hoff:=hm.off;have hw:=hm.wid;refine ⟨{ d with off:=2*d.off+zg d.s d.pos-b*d.wid,pos:=d.pos+1 },?_,⟨hm.st.trans h1.symm,hw.trans h2.symm,?_,?_,hm.over⟩,rfl⟩
 ·unfold Dec.bypass;rw [hm.over,hh];simp only [Bool.false_eq_true,if_false,if_true]
  rcases hb with rfl|rfl
  ·rw [if_neg (by omega)];simp
  ·rw [if_pos (by omega)];simp
 ·show d.pos+1=_
  rw [hm.pos,h3];omega
 ·show 2*d.off+zg d.s d.pos-b*d.wid=_
  rw [h3,h4,hr1,hoff,hw];omega
theorem Enc.fit_last (e:Enc) (b:Int) (h:e.Live) (hb:b=0∨b=1):
 (e.last b).Fit∧(e.last b).steps=e.steps∧(e.last b).st=e.st∧(e.last b).over=false∧256≤(e.last b).wid*2^8∧(e.last b).wid=(if b=1 then 2 else e.wid-2)∧(e.last b).exact=e.exact+(if b=1 then e.wid-2 else 0):=by
 have hok:=e.ok_last b h.good;have htop:=h.fit.top;have hwd:=h.wide
 rcases hb with rfl|rfl
 ·refine ⟨⟨hok.1,h.fit.none,?_⟩,rfl,rfl,h.going,hok.2.2,rfl,?_⟩
  ·show e.exact+(e.wid-2)≤510*2^e.steps;omega
  ·show e.exact=e.exact+0;omega
 ·have hx:(e.last 1).exact=e.exact+(e.wid-2):=by
   show (e.low+(e.wid-2))+512*(2^e.outs-1)+1024*(Zs e.bits*2^e.outs)=e.low+512*(2^e.outs-1)+1024*(Zs e.bits*2^e.outs)+(e.wid-2)
   omega
  refine ⟨⟨hok.1,h.fit.none,?_⟩,rfl,rfl,h.going,hok.2.2,rfl,hx⟩;rw [hx]
  show e.exact+(e.wid-2)+2≤510*2^e.steps
  omega
theorem Enc.term_no (e:Enc) (h:e.Live):e.term 0=Enc.norm 8 (e.last 0):=by
 have hm:e.may 0=true:=by unfold Enc.may;rw [h.going];rfl
 unfold Enc.term;rw [if_pos hm];rfl
theorem Enc.term_yes (e:Enc) (h:e.Live):e.term 1=(Enc.norm 8 (e.last 1)).close:=by
 have hm:e.may 1=true:=by unfold Enc.may;rw [h.going];rfl
 unfold Enc.term;rw [if_pos hm];rfl
theorem Enc.live_term (e:Enc) (h:e.Live):
 (e.term 0).Live∧(e.term 0).st=e.st∧∃ n,(e.term 0).steps=e.steps+n∧e.exact*2^n≤(e.term 0).exact∧(e.term 0).exact+(e.term 0).wid≤(e.exact+e.wid)*2^n:=by
 obtain ⟨l1,l2,l3,l4,l5,l6,l7⟩:=e.fit_last 0 h (.inl rfl);rw [if_neg (by decide)] at l6 l7;obtain ⟨n1,n2,n3,n4,n5⟩:=Enc.live_norm l1 l5 l4 (e.term_no h);rw [l7] at n2;have hp:(0:Int)≤2^zAh 8 (e.last 0).wid:=by have:=zEi (zAh 8 (e.last 0).wid);omega
 refine ⟨n1,n5.trans l3,zAh 8 (e.last 0).wid,by omega,by rw [n2];exact Int.mul_le_mul_of_nonneg_right (by omega) hp,?_⟩;rw [n2,n4,←Int.add_mul];exact Int.mul_le_mul_of_nonneg_right (by omega) hp
theorem Enc.meets_term (e:Enc) (d:Dec) (K:Nat) (h:e.Live) (hm:e.Meets d) (hin:(e.term 0).In K (zL d.s 0 (9+K))) (hsz:9+K≤8*d.s.size):
 ∃ d',d.term=(0,0,d')∧(e.term 0).Meets d'∧d'.s=d.s:=by
 obtain ⟨l1,l2,l3,l4,l5,l6,l7⟩:=e.fit_last 0 h (.inl rfl);rw [if_neg (by decide)] at l6 l7;obtain ⟨n1,n2,n3,n4,n5⟩:=Enc.live_norm l1 l5 l4 (e.term_no h);have hin1:(e.last 0).In K (zL d.s 0 (9+K)):=Enc.in_nest n3 (by rw [n2];exact Int.le_refl _) (by rw [n2,n4,←Int.add_mul];exact Int.le_refl _) hin;have hr:=Enc.in_read hin1;have hrK:=(Enc.in_read hin).2.2;rw [l2,l6,l7] at hr;have hoff:=hm.off;have hw:=hm.wid;obtain ⟨q1,q2,q3,q4⟩:=Enc.meets_norm (d:=d) K n2 n3 n4 (by rw [hm.pos,l2]) d.off (by rw [hoff,l2,l7];omega) hrK hsz;rw [l6,←hw] at q1 q2 q3 q4;refine ⟨d.normal (d.wid-2) d.off,?_,⟨hm.st.trans (n5.trans l3).symm,q2,q3,q4,hm.over⟩,rfl⟩;unfold Dec.term;rw [hm.over];simp only [Bool.false_eq_true,if_false];rw [if_neg (by omega),if_pos q1]
theorem Enc.end_bits (e:Enc) (h:e.Live):
 (e.term 1).bits.length=9+e.steps∧(Zs (e.term 1).bits=e.exact+(e.wid-2)∨Zs (e.term 1).bits=e.exact+(e.wid-2)+1)∧(e.term 1).st=e.st∧(∀ b∈(e.term 1).bits,b=0∨b=1):=by
 obtain ⟨l1,l2,l3,l4,l5,l6,l7⟩:=e.fit_last 1 h (.inr rfl);rw [if_pos rfl] at l6 l7;have hbits:=(e.good_term 1 h.good).1.ok.bits;rw [e.term_yes h] at hbits ⊢;obtain ⟨f,hf⟩:∃ f,f=Enc.norm 8 (e.last 1):=⟨_,rfl⟩;obtain ⟨n1,n2,n3,n4,n5⟩:=Enc.live_norm l1 l5 l4 hf;have h7:zAh 8 (2:Int)=7:=by decide
 rw [l6,h7] at n2 n3 n4;rw [l7] at n2;rw [←hf] at hbits ⊢;have hlo:=n1.fit.ok.low;have hlt:=n1.fit.ok.top;obtain ⟨p,hp,hpb⟩:∃ p:Int,f.low/512%2=p∧(p=0∨p=1):=⟨_,rfl,by omega⟩;have hst:(f.put p).steps=f.steps+1:=f.put_steps p n1.fit.none;have hlen:(f.put p).bits.length=f.steps:=by
  have h1:(f.put p).steps=0+((f.put p).bits.length+1):=rfl;omega
 have hval:512*Zs (f.put p).bits+f.low%512=f.exact:=by
  have hx:(f.put p).exact=f.low+1024*Zs (f.put p).bits:=by
   show f.low+512*(2^0-1)+1024*(Zs (f.put p).bits*2^0)=_
   omega
  have htop:=n1.fit.top;have hwd:=n1.fit.ok.wid0
  rcases hpb with rfl|rfl
  ·have h1:=f.put_zero n1.fit.none;rw [hx] at h1;unfold Enc.exact;generalize Zs f.bits*2^f.outs=q at*;generalize (2:Int)^f.outs=r at*;omega
  ·have hbg:f.begun=true:=by
    cases hbg:f.begun
    ·have:=f.first_low n1.fit.none htop hbg;omega
    ·rfl
   have h1:=f.put_one hbg;rw [hx] at h1;unfold Enc.exact;generalize Zs f.bits*2^f.outs=q at*;generalize (2:Int)^f.outs=r at*;omega
 have hcb:f.close.bits=(f.put p).bits++[f.low/256%2]++[1]:=by unfold Enc.close;rw [hp];rfl
 refine ⟨?_,?_,(show f.close.st=f.st from rfl).trans (n5.trans l3),hbits⟩
 ·rw [hcb];simp;omega
 ·rw [hcb,zBA,zBA];have e1:f.exact=128*(e.exact+(e.wid-2)):=by rw [n2];omega
  omega
theorem zIo (bs:List Int) (n:Nat) (h:n<bs.length):Zs (bs.take (n+1))=2*Zs (bs.take n)+bs.getD n 0:=by
 rw [List.take_add_one,List.getElem?_eq_getElem h];simp only [Option.toList_some,zBA,List.getD,List.getElem?_eq_getElem h,Option.getD_some]
theorem zEw (bs:List Int) (q:Nat) (hq:q<(bs.length+7)/8):((strOfNums (ZP bs)).data.toList.getD q 0)=UInt8.ofNat (Zh bs q).toNat:=by
 rw [strOfNums_data];simp only [List.getD,ZP,List.map_map,List.getElem?_map,List.getElem?_range hq,Option.map_some,Option.getD_some,Function.comp]
theorem zOD (a0 a1 a2 a3 a4 a5 a6 a7:Int) (h0:0≤a0∧a0≤1) (h1:0≤a1∧a1≤1) (h2:0≤a2∧a2≤1) (h3:0≤a3∧a3≤1) (h4:0≤a4∧a4≤1) (h5:0≤a5∧a5≤1) (h6:0≤a6∧a6≤1) (h7:0≤a7∧a7≤1)
 (x:Nat) (hx:(x:Int)=128*a0+64*a1+32*a2+16*a3+8*a4+4*a5+2*a6+a7):
 ((x/128%2:Nat):Int)=a0∧((x/64%2:Nat):Int)=a1∧((x/32%2:Nat):Int)=a2∧((x/16%2:Nat):Int)=a3∧((x/8%2:Nat):Int)=a4∧((x/4%2:Nat):Int)=a5∧((x/2%2:Nat):Int)=a6∧((x/1%2:Nat):Int)=a7:=by
 refine ⟨?_,?_,?_,?_,?_,?_,?_,?_⟩<;>omega
theorem zFy (bs:List Int) (hb:∀ b∈bs,b=0∨b=1) (i:Nat) (hi:i<bs.length):zg (strOfNums (ZP bs)) i=bs.getD i 0:=by
 unfold zg;rw [zEw bs (i/8) (by omega)];have hr:=zBY bs hb (i/8);have h8:(UInt8.ofNat (Zh bs (i/8)).toNat).toNat=(Zh bs (i/8)).toNat:=by
  rw [UInt8.toNat_ofNat'];omega
 rw [h8];have g:∀ j,0≤bs.getD j 0∧bs.getD j 0≤1:=fun j=>by have:=zAr bs hb j;omega
 obtain ⟨q,r,hqr,hr8,hq,hm⟩:∃ q r:Nat,i=8*q+r∧r<8∧i/8=q∧i%8=r:=⟨i/8,i%8,by omega,by omega,rfl,rfl⟩;rw [hm,hq];rw [hq] at hr;have hx:(((Zh bs q).toNat:Nat):Int)=Zh bs q:=by omega
 obtain ⟨k0,k1,k2,k3,k4,k5,k6,k7⟩:=zOD _ _ _ _ _ _ _ _ (g (8*q)) (g (8*q+1)) (g (8*q+2)) (g (8*q+3)) (g (8*q+4)) (g (8*q+5)) (g (8*q+6)) (g (8*q+7)) (Zh bs q).toNat hx;subst hqr
 rcases r with _|_|_|_|_|_|_|_|r
 ·exact k0
 ·exact k1
 ·exact k2
 ·exact k3
 ·exact k4
 ·exact k5
 ·exact k6
 ·exact k7
 ·omega
theorem zEv (bs:List Int) (hb:∀ b∈bs,b=0∨b=1) (n:Nat):n≤bs.length→zL (strOfNums (ZP bs)) 0 n=Zs (bs.take n):=by
 induction n with
 |zero=>intro _;rfl
 |succ n ih=>
  intro h;rw [zIo bs n (by omega),←ih (by omega),←zFy bs hb n (by omega)]
  show 2*_+zg _ (0+n)=_
  rw [Nat.zero_add]
def Enc.text (e:Enc):ByteArray:=strOfNums (ZP (e.term 1).bits)
theorem Enc.text_size (e:Enc) (h:e.Live):e.text.size=(9+e.steps+7)/8:=by
 unfold Enc.text;rw [strOfNums_size,zR,(e.end_bits h).1]
theorem Enc.end_in (e:Enc) (h:e.Live):e.In e.steps (zL e.text 0 (9+e.steps)):=by
 obtain ⟨h1,h2,-,h4⟩:=e.end_bits h;have hw:=h.wide;unfold Enc.text;rw [zEv _ h4 _ (by omega),←h1,List.take_length];refine ⟨0,by omega,?_,?_⟩<;>(rw [Int.pow_zero,Int.mul_one];omega)
theorem Enc.meets_new (xs:List Int) (s:ByteArray) (K:Nat) (hin:(Enc.new xs).In K (zL s 0 (9+K))) (hs:2≤s.size):
 (Enc.new xs).Meets (Dec.begin s xs)∧¬ s.size<2∧¬ 510≤zL s 0 9:=by
 have hr:=Enc.in_read hin;have h0:(Enc.new xs).exact=0:=by simp [Enc.exact,Enc.new,Zs]
 rw [h0] at hr;have h1:zL s 0 9<0+510:=hr.2.1;refine ⟨⟨rfl,rfl,rfl,?_,rfl⟩,by omega,by omega⟩;rw [h0]
 show zL s 0 9=zL s 0 9-0
 omega
theorem Enc.meets_end (e:Enc) (d:Dec) (h:e.Live) (hm:e.Meets d) (hs:d.s=e.text):
 d.term=(1,0,{ d with wid:=d.wid-2,over:=true })∧d.st=(e.term 1).st∧(d.pos+7)/8=d.s.size:=by
 obtain ⟨h1,h2,h3,h4⟩:=e.end_bits h;have hread:zL d.s 0 (9+e.steps)=Zs (e.term 1).bits:=by
  rw [hs];unfold Enc.text;rw [zEv _ h4 _ (by omega),←h1,List.take_length]
 have hoff:=hm.off;have hw:=hm.wid;refine ⟨?_,hm.st.trans h3.symm,?_⟩
 ·unfold Dec.term;rw [hm.over];simp only [Bool.false_eq_true,if_false];rw [if_pos (by omega)]
 ·rw [hs,e.text_size h,hm.pos]
inductive Deed where
 |bin (c:Nat) (b:Int)
 |byp (b:Int)
 |ter
def Enc.deed (e:Enc):Deed→Enc
 | .bin c b=>e.bin c b
 | .byp b=>e.bypass b
 | .ter=>e.term 0
def Dec.deed (d:Dec):Deed→Int×Int×Dec
 | .bin c _=>d.bin c
 | .byp _=>d.bypass
 | .ter=>d.term
def Deed.bit:Deed→Int
 | .bin _ b=>b
 | .byp b=>b
 | .ter=>0
def Deed.fits (n:Nat):Deed→Prop
 | .bin c b=>c<n∧(b=0∨b=1)
 | .byp b=>b=0∨b=1
 | .ter=>True
def Enc.run (e:Enc) (ops:List Deed):Enc:=ops.foldl Enc.deed e
theorem Enc.run_snoc (e:Enc) (ops:List Deed) (o:Deed):e.run (ops++[o])=(e.run ops).deed o:=by simp [Enc.run]
theorem Enc.run_append (e:Enc) (a b:List Deed):e.run (a++b)=(e.run a).run b:=by simp [Enc.run]
theorem Enc.live_deed (e:Enc) (o:Deed) (h:e.Live) (hf:o.fits e.st.length):
 (e.deed o).Live∧(e.deed o).st.length=e.st.length∧(e.deed o).cost≤e.cost+8∧∃ n,(e.deed o).steps=e.steps+n∧e.exact*2^n≤(e.deed o).exact∧(e.deed o).exact+(e.deed o).wid≤(e.exact+e.wid)*2^n:=by
 cases o with
 |bin c b=>obtain ⟨h1,h2,h3⟩:=e.live_bin c b h hf.1 hf.2;exact ⟨h1,h2,(e.good_bin c b h.good).2,h3⟩
 |byp b=>
  obtain ⟨h1,h2,-⟩:=e.live_bypass b h hf;have hc:=(e.good_bypass b h.good).2;exact ⟨h1,by show (e.bypass b).st.length=_;rw [h2],by show (e.bypass b).cost≤_;omega,1,e.nest_bypass b h hf⟩
 |ter=>
  obtain ⟨h1,h2,h3⟩:=e.live_term h;obtain ⟨l1,l2,l3,l4,l5,l6,l7⟩:=e.fit_last 0 h (.inl rfl);have hn:=Enc.ok_norm 8 _ l1.ok l5;have hl:=(e.ok_last 0 h.good).2.1;refine ⟨h1,by show (e.term 0).st.length=_;rw [h2],?_,h3⟩
  show (e.term 0).cost≤_
  rw [e.term_no h,←hl];exact hn.2.2
theorem Enc.live_run (ops:List Deed):∀ e:Enc,e.Live→(∀ o∈ops,o.fits e.st.length)→(e.run ops).Live∧(e.run ops).st.length=e.st.length∧(e.run ops).cost≤e.cost+8*ops.length:=by
 induction ops with
 |nil=>intro e h _;exact ⟨h,rfl,by show e.cost≤_;omega⟩
 |cons o ops ih=>
  intro e h hf;obtain ⟨h1,h2,h3,-⟩:=e.live_deed o h (hf o (by simp));obtain ⟨g1,g2,g3⟩:=ih (e.deed o) h1 (fun x hx=>by rw [h2];exact hf x (by simp [hx]));refine ⟨g1,g2.trans h2,?_⟩
  show ((e.deed o).run ops).cost≤_
  simp only [List.length_cons];omega
theorem Enc.in_run (ops:List Deed):∀ e:Enc,e.Live→(∀ o∈ops,o.fits e.st.length)→∀ K V,(e.run ops).In K V→e.In K V:=by
 induction ops with
 |nil=>intro e _ _ K V h;exact h
 |cons o ops ih=>
  intro e h hf K V hin;obtain ⟨h1,h2,-,n,h4,h5,h6⟩:=e.live_deed o h (hf o (by simp));exact Enc.in_nest h4 h5 h6 (ih (e.deed o) h1 (fun x hx=>by rw [h2];exact hf x (by simp [hx])) K V hin)
theorem Enc.in_prefix (e:Enc) (a b:List Deed) (h:e.Live) (hf:∀ o∈a++b,o.fits e.st.length):(e.run a).In (e.run (a++b)).steps (zL (e.run (a++b)).text 0 (9+(e.run (a++b)).steps)):=by
 have h1:=e.live_run a h (fun o ho=>hf o (by simp [ho]));have h2:=e.live_run (a++b) h hf;have h3:=(e.run (a++b)).end_in h2.1;rw [Enc.run_append] at h3 ⊢;exact Enc.in_run b (e.run a) h1.1 (fun o ho=>by rw [h1.2.1];exact hf o (by simp [ho])) _ _ h3
theorem Enc.meets_deed (e:Enc) (d:Dec) (o:Deed) (K:Nat) (h:e.Live) (hm:e.Meets d) (hf:o.fits e.st.length) (hin:(e.deed o).In K (zL d.s 0 (9+K))) (hsz:9+K≤8*d.s.size):
 ∃ d',d.deed o=(o.bit,0,d')∧(e.deed o).Meets d'∧d'.s=d.s:=by
 cases o with
 |bin c b=>exact e.meets_bin d c K b h hm hf.1 hf.2 hin hsz
 |byp b=>exact e.meets_bypass d K b h hm hf hin hsz
 |ter=>exact e.meets_term d K h hm hin hsz
structure Read (xs:List Int) (ops:List Deed) (j:Nat) (d:Dec):Prop where
 meets:((Enc.new xs).run (ops.take j)).Meets d
 text:d.s=((Enc.new xs).run ops).text
theorem Read.begins (xs:List Int) (ops:List Deed) (hf:∀ o∈ops,o.fits xs.length):
 Zl xs=(Enc.new xs).st∧¬ ((Enc.new xs).run ops).text.size<2∧¬ 510≤zL ((Enc.new xs).run ops).text 0 9∧Read xs ops 0 (Dec.begin ((Enc.new xs).run ops).text xs):=by
 have hl:(Enc.new xs).st.length=xs.length:=by simp [Enc.new,Zl]
 have h1:=(Enc.new xs).live_run ops (Enc.live_new xs) (fun o ho=>by rw [hl];exact hf o ho);have h2:=(Enc.new xs).in_prefix [] ops (Enc.live_new xs) (fun o ho=>by rw [hl];exact hf o (by simpa using ho));rw [List.nil_append] at h2;have hs:=((Enc.new xs).run ops).text_size h1.1;obtain ⟨m1,m2,m3⟩:=Enc.meets_new xs _ _ h2 (by omega);exact ⟨rfl,m2,m3,m1,rfl⟩
theorem Read.step (xs:List Int) (ops:List Deed) (j:Nat) (d:Dec) (hf:∀ o∈ops,o.fits xs.length) (h:Read xs ops j d) (o:Deed) (ho:ops[j]? =some o):
 ∃ d',d.deed o=(o.bit,0,d')∧Read xs ops (j+1) d':=by
 have hl:(Enc.new xs).st.length=xs.length:=by simp [Enc.new,Zl]
 have hlt:j<ops.length:=by
  rcases Nat.lt_or_ge j ops.length with h|h
  ·exact h
  ·rw [List.getElem?_eq_none h] at ho;cases ho
 have htk:ops.take (j+1)=ops.take j++[o]:=by rw [List.take_add_one,ho];rfl
 have hmem:o∈ops:=List.mem_of_getElem? ho;have hlive:=(Enc.new xs).live_run ops (Enc.live_new xs) (fun o ho=>by rw [hl];exact hf o ho);have hlj:=(Enc.new xs).live_run (ops.take j) (Enc.live_new xs) (fun o ho=>by rw [hl];exact hf o (List.mem_of_mem_take ho));have hin:=(Enc.new xs).in_prefix (ops.take (j+1)) (ops.drop (j+1)) (Enc.live_new xs) (fun o ho=>by rw [hl];rw [List.take_append_drop] at ho;exact hf o ho);rw [List.take_append_drop,htk,Enc.run_snoc,←h.text] at hin;have hsz:=((Enc.new xs).run ops).text_size hlive.1;obtain ⟨d',h1,h2,h3⟩:=Enc.meets_deed _ d o _ hlj.1 h.meets (by rw [hlj.2.1,hl];exact hf o hmem) hin (by rw [h.text];omega);exact ⟨d',h1,by rw [htk,Enc.run_snoc];exact h2,h3.trans h.text⟩
theorem Read.ends (xs:List Int) (ops:List Deed) (d:Dec) (hf:∀ o∈ops,o.fits xs.length) (h:Read xs ops ops.length d):
 d.term=(1,0,{ d with wid:=d.wid-2,over:=true })∧d.st=(((Enc.new xs).run ops).term 1).st∧(d.pos+7)/8=d.s.size∧d.pos=9+((Enc.new xs).run ops).steps:=by
 have hl:(Enc.new xs).st.length=xs.length:=by simp [Enc.new,Zl]
 have hlive:=(Enc.new xs).live_run ops (Enc.live_new xs) (fun o ho=>by rw [hl];exact hf o ho);have hm:=h.meets;rw [List.take_length] at hm;obtain ⟨h1,h2,h3⟩:=Enc.meets_end _ d hlive.1 hm h.text;exact ⟨h1,h2,h3,hm.pos⟩
end Go.Proofs.YtcppbdlmcbjmeaaGreatDoor
