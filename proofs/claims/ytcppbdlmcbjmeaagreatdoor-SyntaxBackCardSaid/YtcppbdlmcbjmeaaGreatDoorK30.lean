/- Lemmas that the law needs, part 30. -/
import Derived.Test.YtcppbdlmcbjmeaaGreatDoorK28
import Derived.Test.YtcppbdlmcbjmeaaGreatDoorK29
import Derived.Laws.MathBits
import Derived.Lib.ItoaNum
import Derived.IntWalk
set_option maxHeartbeats 1600000
set_option maxRecDepth 100000
namespace Go.Proofs.YtcppbdlmcbjmeaaGreatDoor
open Go.RowKit
def ueN (x:Nat):List Int:=ZW (x+1) (2*Lib.bitLen (x+1)-1)
def seN (x:Int):List Int:=ueN (if 0<x then (2*x-1).toNat else (-2*x).toNat)
def teN (x most:Nat):List Int:=if most=1 then ZW (1-x) 1 else ueN x
theorem zA8 (x:Nat) (h0:x≠0) (h1:x<4294967296):1≤Lib.bitLen x∧2^(Lib.bitLen x-1)≤x∧x<2^Lib.bitLen x∧Lib.bitLen x≤32:=by
 obtain ⟨a,b,c⟩:=Lib.bitLenAux_bounds 64 x (by omega) h0;refine ⟨a,b,c,?_⟩
 apply Classical.byContradiction
 intro hh;have h2:(2:Nat)^32≤2^(Lib.bitLen x-1):=Nat.pow_le_pow_right (by decide) (by omega);have h3:2^(Lib.bitLen x-1)≤x:=b;omega
theorem zDb (x:Nat) (h:x≤2147483646):(ueN x).length≤63:=by
 unfold ueN;rw [zQ];have:=(zA8 (x+1) (by omega) (by omega)).2.2.2;omega
theorem zM0 (n:Int) (h0:-4611686018427387904≤n) (h1:n≤4611686018427387904):IntKind.i64.wrap n=n:=by rw [IntKind.wrap_i64];omega
theorem zNg (n:Nat) (h1:n≤4611686018427387904):IntKind.u64.wrap (n:Int)=n:=by rw [IntKind.wrap_u64];omega
theorem zBv (b:Nat) (ov:Value) (bs:List Int) (x n:Nat) (w:World) (h:WrIs w b ov bs) (hn:n≤32) (hx:x<2^n) (hlen:bs.length<1000000000):
 Calls Tryz.prog 34 #[.pointer (some ⟨b,0,none⟩),.int .i64 x,.int .i64 n] w fun r w'=>r=.returned (.int .i64 0)∧∃ ov',WrIs w' b ov' (bs++ZW x n)∧EncTo w w' b ov ov':=by
 have hp:2^n≤2^32:=Nat.pow_le_pow_right (by decide) hn;have hx2:x<4294967296:=by omega
 obtain ⟨p,hpp⟩:∃ p:Nat,p=2^n:=⟨_,rfl⟩;have hpi:(2:Int)^n=(p:Int):=by rw [hpp];simp
 rw [←hpp] at hx hp;have hw:IntKind.i64.wrap ((2:Int)^n)=(p:Int):=by rw [hpi];exact zM0 _ (by omega) (by omega)
 have hu:=zNg x (by omega);have H:=zh h;have Hl:=zh hlen;clear h hlen hpp
 go_enter Tryz.func34,Tryz.ntmps34
 go_wp2_with fail
 refine (zEe b ov bs x n w H.out hx2 (by omega) Hl.out).mono ?_;rintro r w' ⟨rfl,ov',h1,h2⟩;have H1:=zh h1;have H2:=zh h2;clear h1 h2;go_wp2;go_ret;exact ⟨rfl,ov',H1.out,H2.out⟩
theorem zID (b:Nat) (ov:Value) (bs:List Int) (x:Nat) (w:World) (h:WrIs w b ov bs) (hx:x≤2147483646) (hlen:bs.length<1000000000):
 Calls Tryz.prog 151 #[.pointer (some ⟨b,0,none⟩),.int .i64 x] w fun r w'=>r=.returned (.int .i64 0)∧∃ ov',WrIs w' b ov' (bs++ueN x)∧EncTo w w' b ov ov':=by
 obtain ⟨y,hy⟩:∃ y:Nat,y=x+1:=⟨_,rfl⟩;obtain ⟨m,hm⟩:∃ m:Nat,m=Lib.bitLen y:=⟨_,rfl⟩;have hmb:=zA8 y (by omega) (by omega);rw [←hm] at hmb;obtain ⟨hm1,-,-,hm2⟩:=hmb;have hub:ueN x=ZW y (2*m-1):=by unfold ueN;rw [←hy,←hm]
 have H:=zh h;have Hl:=zh hlen;have Hu:=zh hub;have Hm:=zh hm;have Hy:=zh hy;have hyb:y≤2147483647:=by omega
 clear h hlen hub hm hy
 go_enter Tryz.func151,Tryz.ntmps151
 go_wp2_with fail
 rw [show ((x:Int)+1)=(y:Int) by have:=Hy.out;omega];refine (Tryz.bits_Len (y:Int) w (by omega) (by omega)).mono ?_;rintro r w' ⟨rfl,rfl⟩;rw [Int.toNat_natCast,←Hm.out]
 go_wp2_with fail
 rw [show (2*(m:Int)-1)=((2*m-1:Nat):Int) by omega];refine (zEe b ov bs y (2*m-1) _ H.out (by omega) (by omega) Hl.out).mono ?_;rintro r w2 ⟨rfl,ov',h1,h2⟩;rw [←Hu.out] at h1;have H1:=zh h1;have H2:=zh h2;clear h1 h2;go_wp2;go_ret;exact ⟨rfl,ov',H1.out,H2.out⟩
theorem zGo (b:Nat) (ov:Value) (bs:List Int) (x:Int) (w:World) (h:WrIs w b ov bs) (h0:-1073741823≤x) (h1:x≤1073741823) (hlen:bs.length<1000000000):
 Calls Tryz.prog 161 #[.pointer (some ⟨b,0,none⟩),.int .i64 x] w fun r w'=>r=.returned (.int .i64 0)∧∃ ov',WrIs w' b ov' (bs++seN x)∧EncTo w w' b ov ov':=by
 have H:=zh h;have Hl:=zh hlen;clear h hlen
 go_enter Tryz.func161,Tryz.ntmps161
 by_cases hx:0<x
 ·have hs:Hid (seN x=ueN (2*x-1).toNat):=zh (by unfold seN;rw [if_pos hx])
  go_wp2_with fail
  rw [show 2*x-1=(((2*x-1).toNat:Nat):Int) by omega];refine (zID b ov bs (2*x-1).toNat _ H.out (by omega) Hl.out).mono ?_;rintro r w2 ⟨rfl,ov',g1,g2⟩;rw [←hs.out] at g1;have H1:=zh g1;have H2:=zh g2;clear g1 g2;go_wp2;go_ret;exact ⟨rfl,ov',H1.out,H2.out⟩
 ·have hs:Hid (seN x=ueN (-2*x).toNat):=zh (by unfold seN;rw [if_neg hx])
  go_wp2_with fail
  rw [show -2*x=(((-2*x).toNat:Nat):Int) by omega];refine (zID b ov bs (-2*x).toNat _ H.out (by omega) Hl.out).mono ?_;rintro r w2 ⟨rfl,ov',g1,g2⟩;rw [←hs.out] at g1;have H1:=zh g1;have H2:=zh g2;clear g1 g2;go_wp2;go_ret;exact ⟨rfl,ov',H1.out,H2.out⟩
theorem zKl (b:Nat) (ov:Value) (bs:List Int) (x most:Nat) (w:World) (h:WrIs w b ov bs) (h0:1≤most) (h1:x≤most) (h2:most≤1000000) (hlen:bs.length<1000000000):
 Calls Tryz.prog 221 #[.pointer (some ⟨b,0,none⟩),.int .i64 x,.int .i64 most] w fun r w'=>r=.returned (.int .i64 0)∧∃ ov',WrIs w' b ov' (bs++teN x most)∧EncTo w w' b ov ov':=by
 have H:=zh h;have Hl:=zh hlen;clear h hlen
 go_enter Tryz.func221,Tryz.ntmps221
 by_cases hm:most=1
 ·subst hm;have hs:Hid (teN x 1=ZW (1-x) 1):=zh rfl
  go_wp2_with fail
  rw [show (1-(x:Int))=((1-x:Nat):Int) by omega];refine (zBv b ov bs (1-x) 1 _ H.out (by decide) (by omega) Hl.out).mono ?_;rintro r w2 ⟨rfl,ov',g1,g2⟩;rw [←hs.out] at g1;have H1:=zh g1;have H2:=zh g2;clear g1 g2;go_wp2;go_ret;exact ⟨rfl,ov',H1.out,H2.out⟩
 ·have hs:Hid (teN x most=ueN x):=zh (by unfold teN;rw [if_neg hm])
  go_wp2_with fail
  refine (zID b ov bs x _ H.out (by omega) Hl.out).mono ?_;rintro r w2 ⟨rfl,ov',g1,g2⟩;rw [←hs.out] at g1;have H1:=zh g1;have H2:=zh g2;clear g1 g2;go_wp2;go_ret;exact ⟨rfl,ov',H1.out,H2.out⟩
def zBE (n:Nat):List Int:=1::List.replicate ((8-(n+1)%8)%8) 0
theorem zGC:∀ n,ZW 0 n=List.replicate n 0
 |0=>rfl
 |n+1=>by rw [ZW,zGC n,List.replicate_succ];simp
theorem zJO (b:Nat) (ov:Value) (bs:List Int) (w:World) (h:WrIs w b ov bs) (hlen:bs.length<900000000):
 Calls Tryz.prog 39 #[.pointer (some ⟨b,0,none⟩)] w fun r w'=>r=.returned (.tuple #[])∧∃ ov',WrIs w' b ov' (bs++zBE bs.length)∧EncTo w w' b ov ov':=by
 have H:=zh h;have Hl:=zh hlen;clear h hlen
 go_enter Tryz.func39,Tryz.ntmps39
 go_wp2_with fail
 refine (zEe b ov bs 1 1 w H.out (by decide) (by decide) (by have:=Hl.out;omega)).mono ?_;rintro r w1 ⟨rfl,ov1,g1,g2⟩;obtain ⟨c,hc⟩:=g1.cells;obtain ⟨q,r,hqr,hr⟩:∃ q r:Nat,(bs++ZW 1 1).length=8*q+r∧r<8:=⟨(bs++ZW 1 1).length/8,(bs++ZW 1 1).length%8,by omega,by omega⟩;have c1:w1.cell? ⟨b,1,none⟩=some (.int .i64 (8*(q:Int)+r)):=by rw [zA hc,hqr];simp
 have hlq:bs.length+1=8*q+r:=by rw [←hqr];simp [ZW]
 have hql:q<900000000:=by have:=Hl.out;omega
 have H1:=zh g1;have H2:=zh g2;have Hq:=zh hlq;clear g1 g2 hc hqr hlq
 go_wp2_with fail
 rw [show (-((r:Int)%8)%8)=(((8-r)%8:Nat):Int) by omega];refine (zEe b ov1 (bs++ZW 1 1) 0 ((8-r)%8) w1 H1.out (by decide) (by omega) (by have:=Hl.out;simp [ZW];omega)).mono ?_;rintro r2 w2 ⟨rfl,ov',g1,g2⟩;have e:bs++ZW 1 1++ZW 0 ((8-r)%8)=bs++zBE bs.length:=by
  have er:(bs.length+1)%8=r:=by have:=Hq.out;omega
  unfold zBE;rw [List.append_assoc,zGC,er];simp [ZW]
 have H3:=zh (g1.cast e);have H4:=zh (H2.out.trans g2);clear g1 g2 e;go_wp2;go_end0;exact ⟨rfl,ov',H3.out,H4.out⟩
theorem zLp (b:Nat) (ov:Value) (bs:List Int) (w:World) (h:WrIs w b ov bs):
 Calls Tryz.prog 33 #[.pointer (some ⟨b,0,none⟩)] w fun r w'=>r=.returned (.int .i64 bs.length)∧w=w':=by
 obtain ⟨c,hc⟩:=h.cells;have c1:w.cell? ⟨b,1,none⟩=some (.int .i64 bs.length):=by rw [zA hc];rfl
 clear h hc
 go_enter Tryz.func33,Tryz.ntmps33
 go_wp2;go_ret;exact ⟨rfl,rfl⟩
theorem zGB (b:Nat) (ov:Value) (bs:List Int) (w:World) (h:WrIs w b ov bs):
 Calls Tryz.prog 43 #[.pointer (some ⟨b,0,none⟩)] w fun r w'=>r=.returned (.string (strOfNums (ZP bs)))∧w=w':=by
 obtain ⟨c,hc⟩:=h.cells;have c0:w.cell? ⟨b,0,none⟩=some ov:=by rw [zA hc];rfl
 have hcv:=zBS (dst:=9) Tryz.underlying49 Tryz.underlying5 Tryz.underlying9 h.out;clear h hc
 go_enter Tryz.func43,Tryz.ntmps43
 go_wp2;go_ret;exact ⟨rfl,rfl⟩
theorem zGp (w:World):
 Calls Tryz.prog 13 #[] w fun r w'=>r=.returned (.pointer (some ⟨w.heap.size,0,none⟩))∧WrIs w' w.heap.size (.slice none 0 0) []∧Only [] w w'∧w'.heap.size=w.heap.size+1:=by
 go_enter Tryz.func13,Tryz.ntmps13
 go_wp2;go_ret;refine ⟨rfl,⟨⟨0,by rw [ZA];rfl⟩,?_,fun y hy=>by cases hy⟩,(Only.refl [] w).alloc _,by simp⟩;exact ⟨rfl,.inl ⟨rfl,rfl⟩⟩
def zDP (cs:List Int):Nat→List Nat
 |0=>[]
 |k+1=>if cs.getD k 0=0 then zDP cs k else k::zDP cs k
def ZF (cs:List Int):List Nat:=zDP cs cs.length
theorem zGY (cs:List Int):∀ k,∀ p∈zDP cs k,p<k∧cs.getD p 0≠0
 |0,p,h=>by simp [zDP] at h
 |k+1,p,h=>by
  unfold zDP at h
  split at h
  ·have:=zGY cs k p h;exact ⟨by omega,this.2⟩
  ·rename_i hk
   rcases List.mem_cons.1 h with rfl|h
   ·exact ⟨by omega,hk⟩
   ·have:=zGY cs k p h;exact ⟨by omega,this.2⟩
theorem zIP (cs:List Int):∀ k p,p<k→cs.getD p 0≠0→p∈zDP cs k
 |0,p,h,_=>by omega
 |k+1,p,h,hp=>by
  unfold zDP
  by_cases hk:p=k
  ·subst hk;rw [if_neg hp];simp
  ·have:=zIP cs k p (by omega) hp
   split
   ·exact this
   ·exact List.mem_cons_of_mem _ this
theorem zAk (cs:List Int):∀ k,(zDP cs k).length≤k
 |0=>by simp [zDP]
 |k+1=>by
  have:=zAk cs k;unfold zDP
  split
  ·omega
  ·simp;omega
theorem zAb (cs:List Int):∀ k i,i<(zDP cs k).length→(zDP cs k).length-1-i≤(zDP cs k).getD i 0∧(zDP cs k).getD i 0<k∧(i+1<(zDP cs k).length→(zDP cs k).getD (i+1) 0<(zDP cs k).getD i 0)
 |0,i,h=>by simp [zDP] at h
 |k+1,i,h=>by
  unfold zDP at h ⊢
  split at h
  ·rename_i hk;rw [if_pos hk];have:=zAb cs k i h;exact ⟨this.1,by omega,this.2.2⟩
  ·rename_i hk;rw [if_neg hk];have hl:=zAk cs k
   cases i with
   |zero=>
    simp only [List.length_cons,List.getD_cons_zero,List.getD_cons_succ];refine ⟨by omega,by omega,fun h2=>?_⟩;exact (zAb cs k 0 (by omega)).2.1
   |succ i=>
    simp only [List.length_cons,List.getD_cons_succ] at h ⊢;have:=zAb cs k i (by omega);exact ⟨by omega,by omega,fun h2=>this.2.2 (by omega)⟩
def zBO:Nat→List Int→Nat
 |0,_=>0
 |_,[]=>0
 |m+1,v::vs=>if v=1∨v=-1 then zBO m vs+1 else 0
theorem zCf:∀ (m:Nat) (vs:List Int),zBO m vs≤m∧zBO m vs≤vs.length
 |0,vs=>by simp [zBO]
 |m+1,[]=>by simp [zBO]
 |m+1,v::vs=>by
  have:=zCf m vs;unfold zBO
  split
  ·simp;omega
  ·simp
theorem zGX:∀ (m:Nat) (vs:List Int) (i:Nat),i<zBO m vs→vs.getD i 0=1∨vs.getD i 0=-1
 |0,vs,i,h=>by simp [zBO] at h
 |m+1,[],i,h=>by simp [zBO] at h
 |m+1,v::vs,i,h=>by
  unfold zBO at h
  split at h
  ·rename_i hv
   cases i with
   |zero=>simpa using hv
   |succ i=>simpa using zGX m vs i (by omega)
  ·omega
theorem zDl:∀ (m:Nat) (vs:List Int),zBO m vs<m→zBO m vs<vs.length→¬ (vs.getD (zBO m vs) 0=1∨vs.getD (zBO m vs) 0=-1)
 |0,vs,h,_=>by omega
 |m+1,[],_,h=>by simp [zBO] at h
 |m+1,v::vs,h,h2=>by
  unfold zBO at h h2 ⊢
  split
  ·rename_i hv;rw [if_pos hv] at h h2
   simpa using zDl m vs (by omega) (by simpa using h2)
  ·rename_i hv
   simpa using hv
def zHY (cs:List Int) (i:Nat):List Int:=(List.range cs.length).map fun j=>if j∈(ZF cs).take i then cs.getD j 0 else 0
theorem zHw (cs:List Int) (i:Nat):(zHY cs i).length=cs.length:=by simp [zHY]
theorem zHB (cs:List Int):zHY cs 0=List.replicate cs.length 0:=by
 unfold zHY
 apply List.ext_getElem?
 intro j
 by_cases h:j<cs.length<;>simp [h]
theorem zJx (cs:List Int) (i:Nat) (hi:i<(ZF cs).length):(zHY cs i).set ((ZF cs).getD i 0) (cs.getD ((ZF cs).getD i 0) 0)=zHY cs (i+1):=by
 have hp:(ZF cs).getD i 0<cs.length:=(zAb cs cs.length i hi).2.1;have ht:(ZF cs).take (i+1)=(ZF cs).take i++[(ZF cs).getD i 0]:=by
  rw [List.take_add_one];simp [List.getElem?_eq_getElem hi,List.getD]
 generalize (ZF cs).getD i 0=p at*;unfold zHY;rw [ht]
 apply List.ext_getElem?
 intro j;rw [List.getElem?_set]
 by_cases hj:j<cs.length
 ·by_cases hpj:p=j
  ·subst hpj;simp [hj]
  ·rw [if_neg hpj];have e:(j∈(ZF cs).take i++[p])↔j∈(ZF cs).take i:=by simp;intro h;exact absurd h.symm hpj
   simp only [List.getElem?_map,List.getElem?_range hj,Option.map_some,e]
 ·have hpj:p≠j:=by omega
  rw [if_neg hpj];simp [hj]
theorem zIN (cs:List Int):zHY cs (ZF cs).length=cs:=by
 unfold zHY;rw [List.take_length]
 apply List.ext_getElem?
 intro j
 by_cases hj:j<cs.length
 ·have e:(if j∈ZF cs then cs.getD j 0 else 0)=cs[j]:=by
   by_cases h0:cs.getD j 0=0
   ·have h1:cs[j]=0:=by simpa [List.getD,List.getElem?_eq_getElem hj] using h0
    split
    ·simp [List.getD,List.getElem?_eq_getElem hj]
    ·exact h1.symm
   ·rw [if_pos (show j∈ZF cs from zIP cs cs.length j hj h0)];simp [List.getD,List.getElem?_eq_getElem hj]
  simp only [List.getElem?_map,List.getElem?_range hj,Option.map_some,e];simp [hj]
 ·simp [hj]
def zT (cs:List Int):List Int:=(ZF cs).map fun p=>cs.getD p 0
theorem zCc (cs:List Int) (i:Nat) (hi:i<(ZF cs).length):(zT cs).getD i 0=cs.getD ((ZF cs).getD i 0) 0:=by
 simp [zT,List.getD,List.getElem?_eq_getElem hi]
theorem zKz (cs:List Int) (i:Nat) (hi:i<(ZF cs).length):(zT cs).getD i 0≠0:=by
 rw [zCc cs i hi];refine (zGY cs cs.length _ ?_).2
 show (ZF cs).getD i 0∈ZF cs
 simp [List.getD,List.getElem?_eq_getElem hi]
def zCu (x most:Nat):List Int:=if most=0 then [] else teN x most
def zF2 (ones i:Nat) (v:Int):List Int:=
 if i<ones then ZW (if v<0 then 1 else 0) 1 else if i=ones∧ones<3 then seN (if 0<v then v-1 else v+1) else seN v
def zBs (ones:Nat):Nat→List Int→List Int
 |_,[]=>[]
 |i,v::vs=>zF2 ones i v++zBs ones (i+1) vs
def zA4:Nat→List Nat→List Int
 |left,a::b::r=>if left=0 then [] else teN (a-b-1) left++zA4 (left-(a-b-1)) (b::r)
 |_,_=>[]
def zEG (cs:List Int):List Int:=
 zCu (ZF cs).length cs.length++(if (ZF cs).length=0 then [] else
  zCu (zBO 3 (zT cs)) (min 3 (ZF cs).length)++(zBs (zBO 3 (zT cs)) 0 (zT cs)++
   (zCu ((ZF cs).getD 0 0+1-(ZF cs).length) (cs.length-(ZF cs).length)++zA4 ((ZF cs).getD 0 0+1-(ZF cs).length) (ZF cs))))
def RdIs (w:World) (b:Nat) (s:ByteArray) (p:Nat):Prop:=w.heap[b]? =some (.cells #[.string s,.int .i64 p] 168 (0,0))
def Holds (s:ByteArray) (p:Nat) (L:List Int):Prop:=p+L.length≤8*s.size∧∀ i,i<L.length→zg s (p+i)=L.getD i 0
theorem Holds.left {s:ByteArray} {p:Nat} {A B:List Int} (h:Holds s p (A++B)):Holds s p A:=by
 refine ⟨by have:=h.1;rw [List.length_append] at this;omega,fun i hi=>?_⟩;rw [h.2 i (by rw [List.length_append];omega)];simp [List.getD,List.getElem?_append_left hi]
theorem Holds.right {s:ByteArray} {p:Nat} {A B:List Int} (h:Holds s p (A++B)):Holds s (p+A.length) B:=by
 refine ⟨by have:=h.1;rw [List.length_append] at this;omega,fun i hi=>?_⟩;rw [Nat.add_assoc,h.2 (A.length+i) (by rw [List.length_append];omega)];simp [List.getD,List.getElem?_append_right]
theorem Holds.tail {s:ByteArray} {p:Nat} {x:Int} {B:List Int} (h:Holds s p (x::B)):Holds s (p+1) B:=Holds.right (A:=[x]) h
theorem Holds.head {s:ByteArray} {p:Nat} {x:Int} {B:List Int} (h:Holds s p (x::B)):zg s p=x:=by
 have:=h.2 0 (by simp)
 simpa using this
theorem zEf (x:Nat):∀ n i,i<n→(ZW x n).getD i 0=((x/2^(n-1-i)%2:Nat):Int)
 |0,i,h=>by omega
 |n+1,0,_=>by simp [ZW]
 |n+1,i+1,h=>by
  have:=zEf x n i (by omega);rw [show n+1-1-(i+1)=n-1-i by omega]
  simpa [ZW] using this
theorem zJv (b:Nat) (s:ByteArray) (at0 p:Nat) (w:World) (h:RdIs w b s at0) (hp:p<8*s.size) (hs:s.size≤140737488355328):
 Calls Tryz.prog 114 #[.pointer (some ⟨b,0,none⟩),.int .i64 p] w fun r w'=>r=.returned (.int .i64 (zg s p))∧w=w':=by
 have c0:w.cell? ⟨b,0,none⟩=some (.string s):=by rw [zA h];rfl
 obtain ⟨q,r,rfl,hr⟩:∃ q r:Nat,p=8*q+r∧r<8:=⟨p/8,p%8,by omega,by omega⟩;have hin:q<s.size:=by omega
 have hqb:q≤140737488355328:=by omega
 have hbit:zg s (8*q+r)=((s[q].toNat/2^(7-r)%2:Nat):Int):=by
  unfold zg;rw [show (8*q+r)/8=q by omega,show (8*q+r)%8=r by omega];have:s.data.toList.getD q 0=s[q]:=by
   simp only [List.getD,Array.getElem?_toList];rw [Array.getElem?_eq_getElem (show q<s.data.size from hin)]
   rfl
  rw [this]
 have Hb:=zh hbit;have hd8:IntKind.i64.wrap (((8*(q:Int)+r))/8)=(q:Int):=by rw [IntKind.wrap_i64];omega
 clear h hbit hs hp;rw [show (((8*q+r:Nat):Int))=8*(q:Int)+r by simp]
 go_enter Tryz.func114,Tryz.ntmps114
 go_wp2;go_ret;refine ⟨?_,rfl⟩;rw [Hb.out];refine zq ?_;have hq:(8*q+r)/8=q:=by omega
 simp only [hq];obtain ⟨v,hv⟩:∃ v:Nat,v=s[q].toNat/2^(7-r):=⟨_,rfl⟩;have hv1:((s[q].toNat:Nat):Int)/2^(7-r)=(v:Int):=by rw [hv];simp
 have hv2:v≤255:=by
  rw [hv];have h8:s[q].toNat<256:=s[q].toNat_lt;have:=Nat.div_le_self s[q].toNat (2^(7-r));omega
 rw [show r%8=r by omega,hv1,←hv,IntWalk.wrap64_in (v:Int) ⟨by omega,by omega⟩];simp
theorem zGW (b:Nat) (s:ByteArray) (p:Nat) (w:World) (h:RdIs w b s p) (hp:p≤8*s.size) (hs:s.size≤140737488355328):
 Calls Tryz.prog 78 #[.pointer (some ⟨b,0,none⟩)] w fun r w'=>r=.returned (.int .i64 ((8*s.size-p:Nat):Int))∧∃ n,w'=w.drewN n:=by
 have c0:w.cell? ⟨b,0,none⟩=some (.string s):=by rw [zA h];rfl
 have c1:w.cell? ⟨b,1,none⟩=some (.int .i64 p):=by rw [zA h];rfl
 obtain ⟨n,hn⟩:∃ n:Nat,n=s.size:=⟨_,rfl⟩;have e:((8*s.size-p:Nat):Int)=8*(n:Int)-p:=by omega
 rw [e];clear h e
 go_enter Tryz.func78,Tryz.ntmps78
 go_wp2
 go_quiet (fail)
 rename_i nq;go_wp2;go_ret;exact ⟨zq (by omega),nq,rfl⟩
theorem RdIs.drewN {w:World} {b:Nat} {s:ByteArray} {p:Nat} (h:RdIs w b s p) (n:Nat):RdIs (w.drewN n) b s p:=h
theorem RdIs.only {w w':World} {S:List Nat} {b:Nat} {s:ByteArray} {p:Nat} (h:RdIs w b s p) (ho:Only S w w') (hb:b∉S):RdIs w' b s p:=ho.heap h hb
theorem RdIs.step {w:World} {b:Nat} {s:ByteArray} {p:Nat} (h:RdIs w b s p) (p':Nat):RdIs (w.setCell ⟨b,1,none⟩ (.int .i64 p')) b s p':=by
 unfold RdIs;rw [zB _ h]
 rfl
theorem zJs (b:Nat) (s:ByteArray) (p y n:Nat) (w:World) (h:RdIs w b s p) (hH:Holds s p (ZW y n)) (hy:y<2^n) (hn:n≤62) (hs:s.size≤140737488355328):
 Calls Tryz.prog 79 #[.pointer (some ⟨b,0,none⟩),.int .i64 n] w fun r w'=>r=.returned (.int .i64 y)∧RdIs w' b s (p+n)∧Only [b] w w':=by
 have hlen:=hH.1;rw [zQ] at hlen;have hbits:∀ k,k<n→zg s (p+k)=((y/2^(n-1-k)%2:Nat):Int):=fun k hk=>by rw [hH.2 k (by rw [zQ];exact hk),zEf y n k hk]
 have hyn:y/2^n=0:=Nat.div_eq_of_lt hy;have hy62:y<2^62:=Nat.lt_of_lt_of_le hy (Nat.pow_le_pow_right (by decide) hn);have H:=zh h;have Hb:=zh hbits;have Hy:=zh hyn;have Hy2:=zh hy62;clear h hH hy hbits hyn hy62
 go_enter Tryz.func79,Tryz.ntmps79
 go_wp2
 go_loopw [5,7] (fun x i wr=>∃ k:Nat,k≤n∧i=.int .i64 k∧x=.int .i64 ((y/2^(n-k):Nat):Int)∧RdIs wr b s (p+k)∧Only [b] w wr) (fun _ i _=>n-(intOf i).toNat)
 case atStart=>exact ⟨0,Nat.zero_le _,rfl,by rw [Nat.sub_zero,Hy.out];rfl,H.out,Only.refl _ _⟩
 case round=>
  obtain ⟨k,hk,rfl,rfl,hi,ho⟩:=hrel
  by_cases hlt:k<n
  ·obtain ⟨u,hu⟩:∃ u:Nat,u=y/2^(n-k):=⟨_,rfl⟩;obtain ⟨t,ht⟩:∃ t:Nat,t=y/2^(n-1-k):=⟨_,rfl⟩;have hut:u=t/2:=by rw [hu,ht,Nat.div_div_eq_div_mul,←Nat.pow_succ];congr 2;omega
   have htb:t<2^62:=by rw [ht];exact Nat.lt_of_le_of_lt (Nat.div_le_self _ _) Hy2.out
   rw [←hu];have c1:wr.cell? ⟨b,1,none⟩=some (.int .i64 ((p+k:Nat):Int)):=by rw [zA hi];rfl
   have z1:=ZB hi 1;have hb2:zg s (p+k)=((t%2:Nat):Int):=by rw [Hb.out k hlt,←ht]
   have Hi:=zh hi;have Ho:=zh ho;have Ht:=zh ht;have Hut:=zh hut;have hpk:p+k<8*s.size:=by omega
   obtain ⟨j,hj⟩:∃ j,j=p+k:=⟨_,rfl⟩;have hub:u<2^61:=by omega
   rw [←hj] at c1 hpk hb2 Hi;have Hj:=zh hj;clear hi ho hu ht hut hj
   go_wp2_with fail
   refine (zJv b s j j _ Hi.out hpk hs).mono ?_;rintro r w' ⟨rfl,rfl⟩;rw [hb2];go_wp2;have h9:=Hi.out.step (j+1);rw [show ((j+1:Nat):Int)=(j:Int)+1 by simp] at h9;refine ⟨⟨k+1,by omega,by simp,?_,?_,Ho.out.setCell (.inl (by simp)) _⟩,?_⟩
   ·rw [show n-(k+1)=n-1-k by omega,←Ht.out]
    congr 1
    have:=Hut.out;omega
   ·rw [show p+(k+1)=j+1 by have:=Hj.out;omega];exact h9
   ·simp [intOf];omega
  ·obtain rfl:k=n:=by omega
   have e:y/2^(k-k)=y:=by simp
   rw [e];have Hi:=zh hi;have Ho:=zh ho;clear hi ho e;go_wp2;go_ret;exact ⟨rfl,Hi.out,Ho.out⟩
theorem zCL (b:Nat) (s:ByteArray) (p y n:Nat) (w:World) (h:RdIs w b s p) (hH:Holds s p (ZW y n)) (hy:y<2^n) (hn:n≤32) (hs:s.size≤140737488355328):
 Calls Tryz.prog 41 #[.pointer (some ⟨b,0,none⟩),.int .i64 n] w fun r w'=>r=.returned (.tuple #[.int .i64 y,.int .i64 0])∧RdIs w' b s (p+n)∧Only [b] w w':=by
 have hlen:=hH.1;rw [zQ] at hlen;have H:=zh h;have HH:=zh hH;have Hy:=zh hy;obtain ⟨m,hm⟩:∃ m:Nat,m=8*s.size-p:=⟨_,rfl⟩;have hmn:n≤m:=by omega
 have Hm:=zh hm;have Hl:=zh hlen;clear h hH hy hm hlen
 go_enter Tryz.func41,Tryz.ntmps41
 go_wp2_with fail
 refine (zGW b s p w H.out (by have:=Hl.out;omega) hs).mono ?_;rintro r w1 ⟨rfl,nq,rfl⟩;rw [←Hm.out];have H1:Hid (RdIs (w.drewN nq) b s p):=zh (H.out.drewN nq)
 go_wp2_with fail
 refine (zJs b s p y n _ H1.out HH.out Hy.out (by omega) hs).mono ?_;rintro r w2 ⟨rfl,g1,g2⟩;have G1:=zh g1;have G2:Hid (Only [b] w w2):=zh (((Only.refl _ w).drewN nq).trans g2);clear g1 g2;go_wp2;go_ret2;exact ⟨rfl,G1.out,G2.out⟩
theorem zNK (b:Nat) (s:ByteArray) (p x:Nat) (w:World) (h:RdIs w b s p) (hH:Holds s p (ueN x)) (hx:x≤2147483646) (hs:s.size≤140737488355328):
 Calls Tryz.prog 153 #[.pointer (some ⟨b,0,none⟩)] w fun r w'=>r=.returned (.tuple #[.int .i64 x,.int .i64 0])∧RdIs w' b s (p+(ueN x).length)∧Only [b] w w':=by
 obtain ⟨m,hm⟩:∃ m:Nat,Lib.bitLen (x+1)=m+1:=⟨Lib.bitLen (x+1)-1,by have:=(zA8 (x+1) (by omega) (by omega)).1;omega⟩;have hmb:=zA8 (x+1) (by omega) (by omega);rw [hm] at hmb;have hue:ueN x=ZW (x+1) (2*m+1):=by unfold ueN;rw [hm];congr 1
 rw [hue] at hH ⊢;have hlen:=hH.1;rw [zQ] at hlen ⊢;have hlow:x+1<2^(m+1):=hmb.2.2.1;have hhigh:2^m≤x+1:=by simpa using hmb.2.1
 have hm31:m≤30:=by
  apply Classical.byContradiction
  intro hh;have h2:(2:Nat)^31≤2^m:=Nat.pow_le_pow_right (by decide) (by omega);omega
 have hzero:∀ k,k<m→zg s (p+k)=0:=fun k hk=>by
  rw [hH.2 k (by rw [zQ];omega),zEf _ _ k (by omega)];have:x+1<2^(2*m+1-1-k):=Nat.lt_of_lt_of_le hlow (Nat.pow_le_pow_right (by decide) (by omega));rw [Nat.div_eq_of_lt this]
  rfl
 have hone:zg s (p+m)=1:=by
  rw [hH.2 m (by rw [zQ];omega),zEf _ _ m (by omega),show 2*m+1-1-m=m by omega];have h1:(x+1)/2^m<2:=by
   rw [Nat.div_lt_iff_lt_mul (Nat.pow_pos (by decide)),Nat.mul_comm,←Nat.pow_succ];exact hlow
  have h2:1≤(x+1)/2^m:=by rw [Nat.le_div_iff_mul_le (Nat.pow_pos (by decide))];omega
  omega
 obtain ⟨lf,hlf⟩:∃ lf:Nat,lf=8*s.size-p:=⟨_,rfl⟩;have hlm:2*m+1≤lf:=by omega
 have hpl:p≤8*s.size:=by omega
 have H:=zh h;have HH:=zh hH;have Hz:=zh hzero;have Ho:=zh hone;have Hlf:=zh hlf;have Hpl:=zh hpl;have Hlow:=zh hlow;have Hlen:=zh hlen;clear h hH hzero hone hlf hlow hhigh hm hmb hue hpl hlen
 go_enter Tryz.func153,Tryz.ntmps153
 go_wp2
 go_loopw [4] (fun q wr=>∃ k nq:Nat,k≤m∧q=.int .i64 k∧wr=w.drewN nq) (fun q _=>m-(intOf q).toNat)
 case atStart=>exact ⟨0,0,Nat.zero_le _,rfl,rfl⟩
 case round=>
  obtain ⟨k,nq,hk,rfl,rfl⟩:=hrel;have H1:Hid (RdIs (w.drewN nq) b s p):=zh (H.out.drewN nq)
  go_wp2_with fail
  refine (zGW b s p _ H1.out Hpl.out hs).mono ?_;rintro r w1 ⟨rfl,n2,rfl⟩;rw [←Hlf.out,show (w.drewN nq).drewN n2=w.drewN (nq+n2) by simp [World.drewN,Nat.add_assoc]];have c1:(w.drewN (nq+n2)).cell? ⟨b,1,none⟩=some (.int .i64 p):=by rw [zA (H.out.drewN (nq+n2))];rfl
  have H2:Hid (RdIs (w.drewN (nq+n2)) b s p):=zh (H.out.drewN (nq+n2));have hpb:p≤1125899906842624:=by have:=Hpl.out;omega
  obtain ⟨wz,hwz⟩:∃ wz,wz=w.drewN (nq+n2):=⟨_,rfl⟩;rw [←hwz] at c1 H2 ⊢;have Hwz:=zh hwz;clear hwz H1
  go_wp2_with fail
  rw [show ((p:Int)+(k:Int))=((p+k:Nat):Int) by simp];refine (zJv b s p (p+k) _ H2.out (by have:=Hlen.out;omega) hs).mono ?_;rintro r w2 ⟨rfl,rfl⟩
  by_cases hkm:k<m
  ·rw [Hz.out k hkm];go_wp2;refine ⟨⟨k+1,nq+n2,by omega,by simp,Hwz.out⟩,?_⟩;simp [intOf];omega
  ·obtain rfl:k=m:=by omega
   rw [Ho.out]
   go_wp2_with fail
   refine (zGW b s p _ H2.out Hpl.out hs).mono ?_;rintro r w3 ⟨rfl,n3,rfl⟩;rw [←Hlf.out];have H3:Hid (RdIs (wz.drewN n3) b s p):=zh (H2.out.drewN n3)
   go_wp2_with fail
   rw [show 2*(k:Int)+1=((2*k+1:Nat):Int) by simp];refine (zJs b s p (x+1) (2*k+1) _ H3.out HH.out (Nat.lt_of_lt_of_le Hlow.out (Nat.pow_le_pow_right (by decide) (by omega))) (by omega) hs).mono ?_;rintro r w4 ⟨rfl,g1,g2⟩;have G1:=zh g1;have G2:Hid (Only [b] w w4):=zh (by have:=g2;rw [Hwz.out] at this;exact (((Only.refl _ w).drewN _).drewN _).trans this);clear g1 g2;rw [show (((x+1:Nat):Int))=(x:Int)+1 by simp];go_wp2;go_ret2;exact ⟨rfl,G1.out,G2.out⟩
theorem zNM (b:Nat) (s:ByteArray) (p:Nat) (x:Int) (w:World) (h:RdIs w b s p) (hH:Holds s p (seN x)) (h0:-1073741823≤x) (h1:x≤1073741823) (hs:s.size≤140737488355328):
 Calls Tryz.prog 163 #[.pointer (some ⟨b,0,none⟩)] w fun r w'=>r=.returned (.tuple #[.int .i64 x,.int .i64 0])∧RdIs w' b s (p+(seN x).length)∧Only [b] w w':=by
 obtain ⟨y,hy⟩:∃ y:Nat,y=(if 0<x then (2*x-1).toNat else (-2*x).toNat):=⟨_,rfl⟩;have hyb:y≤2147483646:=by rw [hy];split<;>omega
 have hse:seN x=ueN y:=by unfold seN;rw [←hy]
 rw [hse] at hH ⊢;have H:=zh h;have HH:=zh hH;have Hy:=zh hy;clear h hH hy hse
 go_enter Tryz.func163,Tryz.ntmps163
 go_wp2_with fail
 refine (zNK b s p y _ H.out HH.out hyb hs).mono ?_;rintro r w2 ⟨rfl,g1,g2⟩;have G1:=zh g1;have G2:=zh g2;clear g1 g2
 by_cases hx:0<x
 ·have e:y=(2*x-1).toNat:=by rw [Hy.out,if_pos hx]
  have hy1:(y:Int)=2*x-1:=by omega
  rw [hy1];clear e hy1;go_wp2;go_ret2;exact ⟨rfl,G1.out,G2.out⟩
 ·have e:y=(-2*x).toNat:=by rw [Hy.out,if_neg hx]
  have hy1:(y:Int)=-2*x:=by omega
  rw [hy1];clear e hy1;go_wp2;go_ret2;have e9:wrap64 (-(-2*x).tdiv 2)=x:=by
   rw [Int.tdiv_eq_ediv_of_nonneg (by omega),IntWalk.wrap64_in _ ⟨by omega,by omega⟩];omega
  exact ⟨congrArg (fun z:Int=>Ending.returned (.tuple #[.int .i64 z,.int .i64 0])) e9,G1.out,G2.out⟩
theorem zNL (b:Nat) (s:ByteArray) (p x most:Nat) (w:World) (h:RdIs w b s p) (hH:Holds s p (teN x most)) (h0:1≤most) (h1:x≤most) (h2:most≤1000000) (hs:s.size≤140737488355328):
 Calls Tryz.prog 267 #[.pointer (some ⟨b,0,none⟩),.int .i64 most] w fun r w'=>r=.returned (.tuple #[.int .i64 x,.int .i64 0])∧RdIs w' b s (p+(teN x most).length)∧Only [b] w w':=by
 have hpb:p≤8*s.size:=by have:=hH.1;omega
 have H:=zh h;have c1:w.cell? ⟨b,1,none⟩=some (.int .i64 p):=by rw [zA h];rfl
 by_cases hm:most=1
 ·subst hm;have hte:teN x 1=ZW (1-x) 1:=rfl;rw [hte] at hH ⊢;rw [zQ];have HH:=zh hH;clear h hH hte
  go_enter Tryz.func267,Tryz.ntmps267
  go_wp2_with fail
  refine (zCL b s p (1-x) 1 _ H.out HH.out (by omega) (by decide) hs).mono ?_;rintro r w2 ⟨rfl,g1,g2⟩;have G1:=zh g1;have G2:=zh g2;clear g1 g2;rw [show (((1-x:Nat):Int))=1-(x:Int) by omega];go_wp2;go_ret2;have e9:(1:Int)-(1-(x:Int))=x:=by omega
  first
   |exact ⟨rfl,G1.out,G2.out⟩
   |exact ⟨congrArg (fun z:Int=>Ending.returned (.tuple #[.int .i64 z,.int .i64 0])) e9,G1.out,G2.out⟩
 ·have hte:teN x most=ueN x:=by unfold teN;rw [if_neg hm]
  rw [hte] at hH ⊢;have HH:=zh hH;clear h hH hte
  go_enter Tryz.func267,Tryz.ntmps267
  go_wp2_with fail
  refine (zNK b s p x _ H.out HH.out (by omega) hs).mono ?_;rintro r w2 ⟨rfl,g1,g2⟩;have G1:=zh g1;have G2:=zh g2;clear g1 g2 c1;go_wp2;go_ret2;exact ⟨rfl,G1.out,G2.out⟩
theorem zHt (s:ByteArray) (w:World):
 Calls Tryz.prog 40 #[.string s] w fun r w'=>r=.returned (.pointer (some ⟨w.heap.size,0,none⟩))∧RdIs w' w.heap.size s 0∧Only [] w w'∧w'.heap.size=w.heap.size+1:=by
 go_enter Tryz.func40,Tryz.ntmps40
 go_wp2;go_ret;refine ⟨rfl,?_,(Only.refl [] w).alloc _,by simp⟩;unfold RdIs;rw [ZA]
 rfl
theorem zMU (b:Nat) (s:ByteArray) (p q k:Nat) (w:World) (h:RdIs w b s p) (hq:q+1+k=8*s.size) (hk:k≤7) (hb:zg s q=1) (hz:∀ j,j<k→zg s (q+1+j)=0) (hs:s.size≤140737488355328):
 Calls Tryz.prog 82 #[.pointer (some ⟨b,0,none⟩)] w fun r w'=>r=.returned (.int .i64 q)∧w=w':=by
 have c0:w.cell? ⟨b,0,none⟩=some (.string s):=by rw [zA h];rfl
 obtain ⟨m,hm⟩:∃ m:Nat,s.size=m+1:=⟨s.size-1,by omega⟩;have hin:m<s.size:=by omega
 have hB:s[m].toNat≠0:=by
  intro e;unfold zg at hb;rw [show q/8=m by omega] at hb;have:s.data.toList.getD m 0=s[m]:=by
   simp only [List.getD,Array.getElem?_toList];rw [Array.getElem?_eq_getElem (show m<s.data.size from hin)]
   rfl
  rw [this,e,Nat.zero_div] at hb
  cases hb
 obtain ⟨r,hqr⟩:∃ r:Nat,q=8*m+r:=⟨q-8*m,by omega⟩;have H:=zh h;have Hb:=zh hb;have Hz:=zh hz;have Hq:=zh hqr;have HB:=zh hB;have Hm:=zh hm;have hrk:r+k=7:=by omega
 have hmb:m≤140737488355328:=by omega
 have hsz:(s.size:Int)=m+1:=by omega
 clear h hb hz hqr hB hq hm
 go_enter Tryz.func82,Tryz.ntmps82
 go_wp2
 go_loopw [3] (fun i wr=>∃ j:Nat,j≤k∧i=.int .i64 ((8*m+r+j:Nat):Int)∧wr=w) (fun i _=>(intOf i).toNat)
 case atStart=>exact ⟨k,Nat.le_refl _,by simp;omega,rfl⟩
 case round=>
  obtain ⟨j,hj,rfl,rfl⟩:=hrel
  go_wp2_with fail
  ·rename_i h8
   exfalso
   have e:(8*m+r+j)/8=m:=by omega
   simp only [e] at h8
   apply HB.out
   have h9:=eq_of_beq h8
   exact_mod_cast h9
  ·have hc:=zJv b s p (q+j) wr H.out (by have:=Hq.out;have:=Hm.out;omega) hs;rw [show ((q+j:Nat):Int)=8*(m:Int)+(r:Int)+(j:Int) by have:=Hq.out;simp;omega] at hc;refine hc.mono ?_;clear hc;rintro r0 w' ⟨rfl,rfl⟩
   by_cases hj0:j=0
   ·subst hj0;rw [Nat.add_zero,Hb.out];go_wp2;go_ret;refine ⟨zq ?_,rfl⟩;have:=Hq.out;omega
   ·obtain ⟨j2,rfl⟩:∃ j2,j=j2+1:=⟨j-1,by omega⟩;rw [show q+(j2+1)=q+1+j2 by omega,Hz.out j2 (by omega)];go_wp2;refine ⟨⟨j2,by omega,by simp;omega,trivial⟩,?_⟩;simp [intOf];omega
theorem zII (b:Nat) (s:ByteArray) (q k:Nat) (w:World) (h:RdIs w b s q) (hq:q+1+k=8*s.size) (hk:k≤7) (hb:zg s q=1) (hz:∀ j,j<k→zg s (q+1+j)=0) (hs:s.size≤140737488355328):
 Calls Tryz.prog 46 #[.pointer (some ⟨b,0,none⟩)] w fun r w'=>r=.returned (.int .i64 0)∧RdIs w' b s (8*s.size)∧Only [b] w w':=by
 have c0:w.cell? ⟨b,0,none⟩=some (.string s):=by rw [zA h];rfl
 have c1:w.cell? ⟨b,1,none⟩=some (.int .i64 q):=by rw [zA h];rfl
 have z1:=ZB h 1;have hle:8*s.size-q=k+1:=by omega
 have hqs:q≤8*s.size:=by omega
 have Hb:=zh hb;have Hz:=zh hz;have H:=zh h;have Hq:=zh hq;have Hle:=zh hle;have Hqs:=zh hqs;clear hb hz h hq hle hqs
 go_enter Tryz.func46,Tryz.ntmps46
 go_wp2_with fail
 go_quiet (first
  |(go_at_call 82;exact Calls.quiet_of_same ((zMU b s q q k _ (H.out.drewN _) Hq.out hk Hb.out Hz.out hs).mono fun _ _ ⟨h1,h2⟩=>⟨h1,h2.symm⟩))
  |(go_at_call 78;exact Calls.quiet_of ((zGW b s q _ (H.out.drewN _) Hqs.out hs).mono fun _ _ ⟨h1,h2⟩=>⟨by rw [h1,Hle.out],h2⟩)))
 rename_i nq;have H2:Hid (RdIs (w.drewN nq) b s q):=zh (H.out.drewN nq);have O2:Hid (Only [b] w (w.drewN nq)):=zh ((Only.refl _ w).drewN nq);go_wp2;go_ret;refine ⟨rfl,?_,O2.out.setCell (.inl (by simp)) _⟩;have h9:=H2.out.step (8*s.size);rw [show ((8*s.size:Nat):Int)=8*(s.size:Int) by simp] at h9;exact h9
theorem zGq (s:ByteArray) (k i:Nat):zg (s.extract k s.size) i=zg s (8*k+i):=by
 unfold zg;rw [show (8*k+i)/8=k+i/8 by omega,show (8*k+i)%8=i%8 by omega]
 congr 4
 rw [ByteArray.data_extract,Array.toList_extract,List.getD_eq_getElem?_getD,List.getD_eq_getElem?_getD]
 congr 1
 show (List.take (s.size-k) (List.drop k s.data.toList))[i/8]? =_
 rw [List.take_of_length_le (by simp),List.getElem?_drop]
theorem zDQ {s:ByteArray} {k p:Nat} {L:List Int} (h:Holds s (8*k+p) L) (hk:k≤s.size):Holds (s.extract k s.size) p L:=by
 refine ⟨?_,fun i hi=>?_⟩
 ·have:=h.1;rw [ByteArray.size_extract];omega
 ·rw [zGq,←Nat.add_assoc];exact h.2 i hi
theorem zGD (y m:Nat):∀ n,n≤m→ZW (2^m+y) n=ZW y n
 |0,_=>rfl
 |n+1,h=>by
  unfold ZW;rw [zGD y m n (by omega)]
  congr 2
  obtain ⟨k,rfl⟩:∃ k,m=n+(1+k):=⟨m-n-1,by omega⟩;rw [Nat.pow_add,Nat.add_comm,Nat.add_mul_div_left _ _ (Nat.pow_pos (by decide)),Nat.pow_add];omega
theorem Holds.cons {s:ByteArray} {p:Nat} {x:Int} {B:List Int} (hx:zg s p=x) (h:Holds s (p+1) B):Holds s p (x::B):=by
 refine ⟨by have:=h.1;simp only [List.length_cons];omega,fun i hi=>?_⟩
 cases i with
 |zero=>exact hx
 |succ i=>
  rw [show p+(i+1)=p+1+i by omega]
  simpa using h.2 i (by simpa using hi)
theorem zDR (s:ByteArray):∀ n p,p+n≤8*s.size→∃ y,y<2^n∧Holds s p (ZW y n)
 |0,p,h=>⟨0,by decide,by simpa [ZW] using h,fun i hi=>by simp [ZW] at hi⟩
 |n+1,p,h=>by
  obtain ⟨y,hy,hh⟩:=zDR s n (p+1) (by omega)
  rcases zDV s p with hb|hb
  ·refine ⟨y,by rw [Nat.pow_succ];omega,?_⟩;unfold ZW;rw [Nat.div_eq_of_lt hy];exact hh.cons hb
  ·refine ⟨2^n+y,by rw [Nat.pow_succ];omega,?_⟩;unfold ZW;rw [zGD y n n (Nat.le_refl _)];refine Holds.cons ?_ hh;rw [hb,show 2^n+y=y+2^n*1 by omega,Nat.add_mul_div_left _ _ (Nat.pow_pos (by decide)),Nat.div_eq_of_lt hy]
   rfl
theorem zJS (A E:ByteArray) (i:Nat) (h:i<8*A.size):zg (A++E) i=zg A i:=by
 unfold zg
 congr 4
 rw [ByteArray.data_append,Array.toList_append,List.getD_eq_getElem?_getD,List.getD_eq_getElem?_getD,List.getElem?_append_left]
 show i/8<A.data.toList.length
 have:A.data.toList.length=A.size:=by simp
 omega
theorem Holds.more {A:ByteArray} {p:Nat} {L:List Int} (h:Holds A p L) (E:ByteArray):Holds (A++E) p L:=by
 refine ⟨by rw [ByteArray.size_append];have:=h.1;omega,fun i hi=>?_⟩;rw [zJS _ _ _ (by have:=h.1;omega)];exact h.2 i hi
theorem zGh (A E:ByteArray):(A++E).extract A.size (A++E).size=E:=by
 apply ByteArray.ext
 apply Array.ext'
 rw [ByteArray.data_extract,Array.toList_extract,ByteArray.data_append,Array.toList_append];have h1:A.data.toList.length=A.size:=by simp
 have h2:E.data.toList.length=E.size:=by simp
 show List.take ((A++E).size-A.size) (List.drop A.size (A.data.toList++E.data.toList))=_
 rw [←h1,List.drop_left,List.take_of_length_le (by rw [h1,ByteArray.size_append];omega)]
theorem zI1 (bs:List Int) (hb:∀ b∈bs,b=0∨b=1) (i:Nat) (hi:i<8*((bs.length+7)/8)):zg (strOfNums (ZP bs)) i=bs.getD i 0:=by
 unfold zg;rw [zEw bs (i/8) (by omega)];have hr:=zBY bs hb (i/8);have h8:(UInt8.ofNat (Zh bs (i/8)).toNat).toNat=(Zh bs (i/8)).toNat:=by
  rw [UInt8.toNat_ofNat'];omega
 rw [h8];have g:∀ j,0≤bs.getD j 0∧bs.getD j 0≤1:=fun j=>by have:=zAr bs hb j;omega
 obtain ⟨q,r,hqr,hr8,hq,hm⟩:∃ q r:Nat,i=8*q+r∧r<8∧i/8=q∧i%8=r:=⟨i/8,i%8,by omega,by omega,rfl,rfl⟩;rw [hm,hq];rw [hq] at hr;have hx:(((Zh bs q).toNat:Nat):Int)=Zh bs q:=by omega
 obtain ⟨k0,k1,k2,k3,k4,k5,k6,k7⟩:=zOD _ _ _ _ _ _ _ _ (g (8*q)) (g (8*q+1)) (g (8*q+2)) (g (8*q+3)) (g (8*q+4)) (g (8*q+5)) (g (8*q+6)) (g (8*q+7)) (Zh bs q).toNat hx;subst hqr
 rcases r with _|_|_|_|_|_|_|_|r
 ·exact k0
 ·exact k1
 ·exact k2
 ·exact k3
 ·exact k4
 ·exact k5
 ·exact k6
 ·exact k7
 ·omega
theorem zEJ {bs:List Int} (hb:∀ b∈bs,b=0∨b=1):Holds (strOfNums (ZP bs)) 0 bs:=
 ⟨by rw [strOfNums_size,zR];omega,fun i hi=>by rw [Nat.zero_add];exact zFy bs hb i hi⟩
theorem zGF (n:Nat):(zBE n).length=1+(8-(n+1)%8)%8:=by simp [zBE];omega
theorem zIq (n:Nat):∀ b∈zBE n,b=0∨b=1:=by
 intro b hb
 rcases List.mem_cons.1 hb with h|h
 ·exact .inr h
 ·exact .inl (List.eq_of_mem_replicate h)
theorem zGv {s:ByteArray} {p n:Nat} (h:Holds s p (zBE n)):zg s p=1∧∀ j,j<(8-(n+1)%8)%8→zg s (p+1+j)=0:=by
 refine ⟨h.head,fun j hj=>?_⟩;have h2:=h.tail.2 j (by simpa using hj);rw [h2,List.getD_eq_getElem?_getD,List.getElem?_replicate,if_pos hj]
 rfl
end Go.Proofs.YtcppbdlmcbjmeaaGreatDoor
