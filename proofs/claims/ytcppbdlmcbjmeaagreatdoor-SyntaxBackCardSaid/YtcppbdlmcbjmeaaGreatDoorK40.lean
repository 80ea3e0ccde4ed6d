/- Lemmas that the law needs, part 40. -/
import Derived.Test.YtcppbdlmcbjmeaaGreatDoorK30
import Derived.Test.YtcppbdlmcbjmeaaGreatDoorK36
set_option maxHeartbeats 1600000
set_option maxRecDepth 100000
namespace Go.Proofs.YtcppbdlmcbjmeaaGreatDoor
open Go.RowKit
theorem zJ8 (n:Int) (w:World):Calls Tryz.prog 225 #[.int .i64 n] w fun r w'=>r=.returned (.bool (zEp n))∧w=w':=by
 go_enter Tryz.func225,Tryz.ntmps225
 by_cases h1:n=4
 ·subst h1;go_wp2;go_ret;exact ⟨rfl,rfl⟩
 ·by_cases h2:n=15
  ·subst h2;go_wp2;go_ret;exact ⟨rfl,rfl⟩
  ·have e1:(n==4)=false:=by simpa using h1
   have e2:(n==15)=false:=by simpa using h2
   go_wp2;go_ret;refine ⟨zB2 ?_,rfl⟩;unfold zEp;simp [h1,h2]
   try exact Bool.eq_iff_iff.2 (by simp)
def zJ3 (ps:List Nat):List Value:=ps.map fun (p:Nat)=>Value.int .i64 (p:Int)
theorem zJ9 (v:Value) (cs:List Int) (w:World) (hv:IntSlice w v cs) (hn:cs.length≤16):
 Calls Tryz.prog 226 #[v] w fun r w'=>∃ u,r=.returned u∧w'.ownsRow w.heap.size 3 1 u (ZF cs).length (zJ3 (ZF cs))∧Only [] w w':=by
 obtain ⟨ao,cap,rfl,hx⟩:=hv;obtain ⟨n,hnn⟩:∃ n,n=cs.length:=⟨_,rfl⟩;rw [←hnn] at hn ⊢;have Hx:=zh hx;have Hn:=zh hnn;have hlen:(ZF cs).length≤n:=by rw [hnn];exact zAk cs _
 have Hlen:=zh hlen;clear hx hnn hlen
 go_enter Tryz.func226,Tryz.ntmps226
 go_wp2
 go_loopw [3,4] (fun o q wr=>∃ (k z:Nat) (dn:List Nat),k≤n∧q=.int .i64 ((k:Int)-1)∧Hid (z=dn.length)∧z≤16∧wr.ownsRow w.heap.size 3 1 o z (zJ3 dn)∧Hid (dn++zDP cs k=ZF cs)∧Only [] w wr) (fun _ q _=>(intOf q+1).toNat)
 case atStart=>exact ⟨n,0,[],Nat.le_refl _,rfl,zh rfl,by decide,World.ownsRow_nil _ _ _ _,zh (by rw [Hn.out];rfl),Only.refl _ _⟩
 case round=>
  obtain ⟨k,z,dn,hk,rfl,hz,hz16,hown,hdn,ho⟩:=hrel;have Hown:=zh hown;have Ho:=zh ho;have hzl:Hid (z+(zDP cs k).length≤16):=zh (by
   have h2:=congrArg List.length hdn.out;rw [List.length_append,←hz.out] at h2;have:=Hlen.out;omega)
  by_cases h0:k=0
  ·subst h0;clear hown ho;go_wp2;go_ret;have e:dn=ZF cs:=by rw [←hdn.out];simp [zDP]
   refine ⟨_,rfl,?_,Ho.out⟩;rw [←e];exact zS Hown.out hz.out rfl
  ·obtain ⟨j,rfl⟩:∃ j,k=j+1:=⟨k-1,by omega⟩;rw [show (((j+1:Nat):Int)-1)=(j:Int) by omega];obtain ⟨g,off,rfl,hc⟩:∃ g off,ao=some ⟨g,off,none⟩∧∀ i,i<cs.length→w.cell? ⟨g,off+i,none⟩=some (.int .i64 (cs.getD i 0)):=by
    rcases Hx.out with h|⟨g,off,h1,h2⟩
    ·have:=Hn.out;rw [h] at this;simp at this;omega
    ·exact ⟨g,off,h1,h2⟩
   have c1:wr.cell? ⟨g,off+j,none⟩=some (.int .i64 (cs.getD j 0)):=ho.cell (hc j (by have:=Hn.out;omega)) (by simp);obtain ⟨x,hx⟩:∃ x,x=cs.getD j 0:=⟨_,rfl⟩;rw [←hx] at c1;have Hc:=zh hc;have hd2:=hdn.out;rw [zDP,←hx] at hd2;have Hx2:=zh hx;have hs:=ho.size;clear hown ho hc hx
   by_cases hx0:x=0
   ·subst hx0;rw [if_pos rfl] at hd2;have Hd2:=zh hd2;clear hd2 hdn;go_wp2
    go_roundw
    case rel=>exact ⟨j,z,dn,by omega,by go_num,hz,hz16,Hown.out,Hd2,Ho.out⟩
    case measure=>simp [intOf]<;>omega
   ·rw [if_neg hx0] at hd2;have Hd2:=zh hd2;have hb0:(x != 0)=true:=by simp [hx0]
    clear hd2 hdn
    go_wp2_with (at_builtin;refine zf rfl _ _ rfl zEQ w.heap.size _ _ _ _ Hown.out rfl rfl (by simp) rfl (by omega) (by decide) (by omega) ?_)
    intro g5 cap5 w5 hp;obtain ⟨o5,b5⟩:=zBG hp Hown.out;have Own5:=zh (show w5.ownsRow w.heap.size 3 1 (.slice (some ⟨g5,0,none⟩) (z+1) cap5) (z+1) (zJ3 (dn++[j])) from zS hp.1 rfl (by simp [zJ3]));have O5:Hid (Only [] w w5):=zh (Ho.out.trans' o5 (fun i hi=> .inr (b5 i (by simpa using hi)).1));clear hp o5 b5;go_wp2
    go_roundw
    case rel=>exact ⟨j,z+1,dn++[j],by omega,by go_num,zh (by rw [hz.out];simp),(by have h9:=hzl.out;rw [zDP,←Hx2.out,if_neg hx0] at h9;simp at h9;omega),Own5.out,zh (by rw [←Hd2.out];simp),O5.out⟩
    case measure=>simp [intOf]<;>omega
theorem zLI (b:Nat) (ov:Value) (bs:List Int) (x most:Nat) (w:World) (h:WrIs w b ov bs) (hx:x≤most) (hm:most≤16) (hlen:bs.length<1000000000):
 Calls Tryz.prog 227 #[.pointer (some ⟨b,0,none⟩),.int .i64 x,.int .i64 most] w fun r w'=>r=.returned (.tuple #[])∧∃ ov',WrIs w' b ov' (bs++zCu x most)∧EncTo w w' b ov ov':=by
 have H:=zh h;clear h
 go_enter Tryz.func227,Tryz.ntmps227
 unfold zCu
 by_cases h0:most=0
 ·subst h0;rw [if_pos rfl,List.append_nil];go_wp2;go_end0;exact ⟨rfl,_,H.out,EncTo.refl _ _ _⟩
 ·rw [if_neg h0]
  go_wp2_with fail
  refine (zKl b ov bs x most w H.out (by omega) hx (by omega) hlen).mono ?_;rintro r w1 ⟨rfl,ov1,h1,h2⟩;have H1:=zh h1;have H2:=zh h2;clear h1 h2;go_wp2;go_end0;exact ⟨rfl,_,H1.out,H2.out⟩
theorem zDh (x:Int) (h0:-1000000≤x) (h1:x≤1000000):(seN x).length≤63:=by
 unfold seN
 apply zDb
 split<;>omega
theorem zDc (x most:Nat) (h:x≤most) (hm:most≤1000000):(teN x most).length≤63:=by
 unfold teN
 split
 ·rw [zQ];decide
 ·exact zDb x (by omega)
theorem zAO (x most:Nat) (h:x≤most) (hm:most≤1000000):(zCu x most).length≤63:=by
 unfold zCu
 split
 ·simp
 ·exact zDc x most h hm
theorem zE3 (ones i:Nat) (v:Int) (h0:-32767≤v) (h1:v≤32767):(zF2 ones i v).length≤63:=by
 unfold zF2
 split
 ·rw [zQ];decide
 ·split
  ·apply zDh<;>split<;>omega
  ·exact zDh v (by omega) (by omega)
theorem zCg (ones:Nat):∀ (vs:List Int) (i k:Nat),k<vs.length→zBs ones (i+k) (vs.drop k)=zF2 ones (i+k) (vs.getD k 0)++zBs ones (i+(k+1)) (vs.drop (k+1))
 |[],i,k,h=>by simp at h
 |v::vs,i,0,_=>by simp [zBs]
 |v::vs,i,k+1,h=>by
  have:=zCg ones vs (i+1) k (by simpa using h);simp only [List.drop_succ_cons,List.getD_cons_succ];rw [show i+(k+1)=i+1+k by omega,this,show i+(k+1+1)=i+1+(k+1) by omega]
theorem zDi:∀ (ps:List Nat) (left k:Nat),k+1<ps.length→left≠0→zA4 left (ps.drop k)=teN (ps.getD k 0-ps.getD (k+1) 0-1) left++zA4 (left-(ps.getD k 0-ps.getD (k+1) 0-1)) (ps.drop (k+1))
 |[],left,k,h,_=>by simp at h
 |[a],left,k,h,_=>by simp at h
 |a::b::r,left,0,_,h0=>by simp [zA4,h0]
 |a::b::r,left,k+1,h,h0=>by
  have:=zDi (b::r) left k (by simpa using h) h0
  simpa using this
theorem zDI (ps:List Nat) (left k:Nat) (h:left=0∨ps.length≤k+1):zA4 left (ps.drop k)=[]:=by
 rcases h with rfl|h
 ·match ps.drop k with
  |[]=>rfl
  |[a]=>rfl
  |a::b::r=>simp [zA4]
 ·have hl:(ps.drop k).length≤1:=by simp;omega
  match hd:ps.drop k with
  |[]=>rfl
  |[a]=>rfl
  |a::b::r=>rw [hd] at hl;simp at hl
theorem zHA {w:World} {B:Nat} {e:TypeId} {v:Value} {n:Nat} {xs:List Value} (h:w.ownsRow B e 1 v n xs):
 ∃ ao cap,v=.slice ao n cap∧(0<n→∃ g,ao=some ⟨g,0,none⟩∧B≤g∧g<w.heap.size∧∀ i,i<n→w.cell? ⟨g,i,none⟩=xs[i]?):=by
 rcases h.2 with ⟨hv,h0⟩|⟨g,cap,cur,hv,hb,hg,_⟩
 ·exact ⟨none,0,by rw [hv,h0],fun h=>by omega⟩
 ·exact ⟨_,cap,hv,fun _=>⟨g,rfl,hb,lt_of_block hg,fun i hi=>by rw [hv] at h;exact h.cellAt i (by omega)⟩⟩
theorem EncTo.cell {w w':World} {b:Nat} {ov ov':Value} (h:EncTo w w' b ov ov') {a:Addr} {v:Value} (hc:w.cell? a=some v) (h1:a.block≠b) (h2:ov.ownBlock≠some a.block):w'.cell? a=some v:=
 h.only.cell hc (by
  intro hm
  rcases List.mem_cons.1 hm with hm|hm
  ·exact h1 hm
  ·exact h2 (by simpa using hm))
theorem zNS (b:Nat) (ov v:Value) (bs cs:List Int) (w:World) (h:WrIs w b ov bs) (hv:IntSlice w v cs) (hsz:cs.length=4∨cs.length=15∨cs.length=16) (hr:rangeB cs=true) (hlen:bs.length<900000000)
 (hsep:∀ g off c,v=.slice (some ⟨g,off,none⟩) cs.length c→g≠b∧ov.ownBlock≠some g):
 Calls Tryz.prog 218 #[.pointer (some ⟨b,0,none⟩),v] w fun r w'=>r=.returned (.int .i64 0)∧∃ ov',WrIs w' b ov' (bs++zEG cs)∧EncTo w w' b ov ov':=by
 have hvv:=hv;obtain ⟨ao,cap,rfl,hx⟩:=hv;obtain ⟨g,off,rfl,hc⟩:∃ g off,ao=some ⟨g,off,none⟩∧∀ i,i<cs.length→w.cell? ⟨g,off+i,none⟩=some (.int .i64 (cs.getD i 0)):=by
  rcases hx with h|⟨g,off,h1,h2⟩
  ·rw [h] at hsz;simp at hsz
  ·exact ⟨g,off,h1,h2⟩
 obtain ⟨hgb,hgo⟩:=hsep g off cap rfl;have hrange:=fun i=>zCN hr i
 have hplN:(ZF cs).length≤cs.length:=zAk cs _;obtain ⟨N,hN⟩:∃ N,N=cs.length:=⟨_,rfl⟩;obtain ⟨n,hn⟩:∃ n,n=(ZF cs).length:=⟨_,rfl⟩;rw [←hN] at hsz hplN hvv;rw [←hn] at hplN;have H:=zh h;have HV:=zh hvv;have Hc:=zh hc;have HN:=zh hN;have Hn:=zh hn;have Hr:=zh hrange;have Hgo:=zh hgo;have hN16:N≤16:=by omega
 have hN4:4≤N:=by omega
 have hszB:zEp (N:Int)=true:=by rcases hsz with rfl|rfl|rfl<;>rfl
 rw [←hN];clear h hvv hx hc hrange hn hgo hr hsep hsz hN
 go_enter Tryz.func218,Tryz.ntmps218
 go_wp2_with fail
 refine (zJ8 _ _).mono ?_;rintro r w1 ⟨rfl,rfl⟩;rw [hszB];go_wp2
 go_loop [25] (fun q=>∃ k:Nat,k≤N∧q=.int .i64 k) (fun q=>N-(intOf q).toNat)
 case atStart=>exact ⟨0,Nat.zero_le _,rfl⟩
 case round=>
  obtain ⟨k,hk,rfl⟩:=hrel
  by_cases hlt:k<N
  ·have c1:=Hc.out k (by rw [←HN.out];exact hlt);have hxr:=Hr.out k;obtain ⟨x,hx⟩:∃ x,x=cs.getD k 0:=⟨_,rfl⟩;rw [←hx] at c1 hxr;clear hx;go_wp2
   go_round
   case rel=>exact ⟨k+1,by omega,by go_num⟩
   case measure=>simp [intOf]<;>omega
  ·obtain rfl:k=N:=by omega
   go_wp2_with fail
   refine (zJ9 _ cs w HV.out (by rw [←HN.out];exact hN16)).mono ?_;rintro r w1 ⟨u,rfl,hown,ho1⟩;have hb0:=lt_of_block H.out.cells.choose_spec;have hob:∀ z,ov.ownBlock=some z→z<w.heap.size:=fun z hz=>by obtain ⟨c,hc⟩:=zD H.out.out hz;exact lt_of_block hc
   obtain ⟨ao,capu,rfl,hu⟩:=zHA hown;rw [←Hn.out] at hu ⊢;have hP:Hid (∀ wr ov2,EncTo w1 wr b ov ov2→0<n→∃ gu,ao=some ⟨gu,0,none⟩∧∀ i,i<n→wr.cell? ⟨gu,i,none⟩=some (.int .i64 ((ZF cs).getD i 0))):=zh (by
    intro wr ov2 he hn0;obtain ⟨gu,e1,e2,e3,e4⟩:=hu hn0;refine ⟨gu,e1,fun i hi=>he.cell ?_ ?_ ?_⟩
    ·rw [e4 i hi];unfold zJ3;rw [List.getElem?_map,List.getElem?_eq_getElem (by have:=Hn.out;omega)];simp [List.getD,List.getElem?_eq_getElem (show i<(ZF cs).length by have:=Hn.out;omega)]
    ·show gu≠b
     omega
    ·show ov.ownBlock≠some gu
     intro e;have:=hob gu e;omega)
   have hC:Hid (∀ wr ov2,EncTo w1 wr b ov ov2→∀ j,j<k→wr.cell? ⟨g,off+j,none⟩=some (.int .i64 (cs.getD j 0))):=zh (by
    intro wr ov2 he j hj;exact he.cell (ho1.cell (Hc.out j (by rw [←HN.out];exact hj)) (by simp)) hgb Hgo.out)
   have hW:WrIs w1 b ov bs:=H.out.only ho1 (by simp) (by simp);have HW:=zh hW;have HO:=zh ho1;clear hown hu ho1 hW hob
   go_wp2_with fail
   refine (zLI b ov bs n k w1 HW.out hplN hN16 (by omega)).mono ?_;rintro r w2 ⟨rfl,ov2,h2,e2⟩;have H2:=zh h2;have E2:=zh e2;clear h2 e2
   by_cases hn0:n=0
   ·subst hn0;go_wp2;go_ret;refine ⟨rfl,ov2,?_,?_⟩
    ·have e:zEG cs=zCu 0 k:=by
      unfold zEG;rw [←Hn.out,if_pos rfl,List.append_nil,HN.out]
     rw [e];exact H2.out
    ·exact EncTo.trans ⟨HO.out.mono (by simp),fun _ h=> .inl h⟩ E2.out
   ·obtain ⟨gu,rfl,hp2⟩:=hP.out w2 ov2 E2.out (by omega);have hP2:Hid (∀ wr ov2,EncTo w1 wr b ov ov2→∀ i,i<n→wr.cell? ⟨gu,i,none⟩=some (.int .i64 ((ZF cs).getD i 0))):=zh (by
     intro wr ov3 he;obtain ⟨gu',e1,e2⟩:=hP.out wr ov3 he (by omega);injection e1 with e1
     injection e1 with e1
     subst e1;exact e2)
    have hPk:Hid (∀ i,i<n→(ZF cs).getD i 0<k):=zh (fun i hi=>by rw [HN.out];exact (zAb cs cs.length i (by have:=Hn.out;unfold ZF at this;omega)).2.1);obtain ⟨O,hO⟩:∃ O,O=zBO 3 (zT cs):=⟨_,rfl⟩;have hlv:(zT cs).length=n:=by rw [Hn.out];simp [zT]
    have hO3:O≤3:=by rw [hO];exact (zCf 3 _).1
    have hOn:O≤n:=by rw [hO,←hlv];exact (zCf 3 _).2
    have hOa:Hid (∀ i,i<O→(zT cs).getD i 0=1∨(zT cs).getD i 0=-1):=zh (by rw [hO];exact zGX 3 _);have hOs:Hid (O<3→O<n→¬ ((zT cs).getD O 0=1∨(zT cs).getD O 0=-1)):=zh (by rw [hO,←hlv];exact zDl 3 _);have HO1:=zh hO;clear hp2 hP hO hlv;go_wp2
    go_loop [8] (fun q=>∃ j:Nat,j≤O∧q=.int .i64 j) (fun q=>4-(intOf q).toNat)
    case atStart=>exact ⟨0,Nat.zero_le _,rfl⟩
    case round=>
     obtain ⟨j,hj,rfl⟩:=hrel
     by_cases hjO:j<O
     ·have hjn:j<n:=by omega
      have cp:=hP2.out w2 ov2 E2.out j hjn;have hpk:=hPk.out j hjn;have cv:=hC.out w2 ov2 E2.out _ hpk;have hvj:=zCc cs j (by rw [←Hn.out];exact hjn);rw [←hvj] at cv;obtain ⟨q,hq⟩:∃ q,q=(ZF cs).getD j 0:=⟨_,rfl⟩;obtain ⟨x,hx⟩:∃ x,x=(zT cs).getD j 0:=⟨_,rfl⟩;rw [←hq] at cp cv hpk;rw [←hx] at cv;have hx1:x=1∨x=-1:=by rw [hx];exact hOa.out j hjO
      clear hq hx hvj
      rcases hx1 with rfl|rfl
      ·go_wp2
       go_round
       case rel=>exact ⟨j+1,by omega,by go_num⟩
       case measure=>simp [intOf]<;>omega
      ·go_wp2
       go_round
       case rel=>exact ⟨j+1,by omega,by go_num⟩
       case measure=>simp [intOf]<;>omega
     ·obtain rfl:j=O:=by omega
      obtain ⟨M,hM,hMe⟩:∃ M:Nat,M=min 3 n∧j≤M:=⟨_,rfl,by omega⟩;have HM:=zh hM;have hwx:∃ (q:Nat) (x:Int),(j<M→w2.cell? ⟨gu,j,none⟩=some (.int .i64 q)∧w2.cell? ⟨g,off+q,none⟩=some (.int .i64 x)∧q<k∧(x==1)=false∧(x==-1)=false):=by
       by_cases hjn:j<n
       ·have cp:=hP2.out w2 ov2 E2.out j hjn;have hpk:=hPk.out j hjn;have cv:=hC.out w2 ov2 E2.out _ hpk;rw [←zCc cs j (by rw [←Hn.out];exact hjn)] at cv;refine ⟨_,_,fun hjM=>⟨cp,cv,hpk,?_,?_⟩⟩
        ·have:=hOs.out (by omega) hjn;simp only [not_or] at this
         simpa using this.1
        ·have:=hOs.out (by omega) hjn;simp only [not_or] at this
         simpa using this.2
       ·exact ⟨0,0,fun h=>by omega⟩
      obtain ⟨q,x,hqx⟩:=hwx;have hsplit:((w2.cell? ⟨gu,j,none⟩=some (.int .i64 q)∧w2.cell? ⟨g,off+q,none⟩=some (.int .i64 x)∧q<k∧(x==1)=false∧(x==-1)=false)∧j<3∧j<n)∨((3:Int)≤j∧3≤n)∨((n:Int)≤j∧n≤3):=by
       by_cases hjM:j<M
       ·exact .inl ⟨hqx hjM,by omega,by omega⟩
       ·exact .inr (by omega)
      have hn3:Hid (min (3:Int) (n:Int)=(M:Int)):=zh (by omega);have hM16:M≤3:=by omega
      have hfall:=fun i (hi:i<n)=>zAb cs cs.length i (by have:=Hn.out;unfold ZF at this;omega)
      have Hfall:=zh hfall;clear hM hfall hOa hOs
      rcases hsplit with ⟨⟨cp,cv,hpk,e1,e2⟩,h1,h3⟩|⟨h1,h3⟩|⟨h1,h3⟩
      all_goals
       clear hqx
       go_wp2_with fail
       try clear cp cv hpk e1 e2
       clear h1 h3;rw [hn3.out];refine (zLI b ov2 (bs++zCu n k) j M w2 H2.out (by omega) (by omega) (by have:=zAO n k hplN (by omega);rw [List.length_append];omega)).mono ?_;rintro r w3 ⟨rfl,ov3,h3,e3⟩;have HB0:Hid ((bs++zCu n k++zCu j M).length≤bs.length+126):=zh (by have h1:=zAO n k hplN (by omega);have h2:=zAO j M (by omega) (by omega);simp only [List.length_append];omega);have H3:=zh h3;have E3:=zh (E2.out.trans e3);clear h3 e3;go_wp2
       go_loopw [82] (fun q wr=>∃ (i:Nat) (ov4:Value) (bs4:List Int),i≤n∧q=.int .i64 i∧WrIs wr b ov4 bs4∧EncTo w1 wr b ov ov4∧Hid (bs4++zBs j i ((zT cs).drop i)=bs++zCu n k++zCu j M++zBs j 0 (zT cs))∧Hid (bs4.length≤bs.length+126+63*i)) (fun q _=>n-(intOf q).toNat)
       case atStart=>exact ⟨0,ov3,_,Nat.zero_le _,rfl,H3.out,E3.out,zh (by simp),zh (by have:=HB0.out;omega)⟩
       case round=>
        obtain ⟨i,ov4,bs4,hi,rfl,hw4,he4,hb4,hl4⟩:=hrel;have H4:=zh hw4;have E4:=zh he4;have hll:=hl4.out
        by_cases hin:i<n
        ·have cp:=hP2.out wr ov4 he4 i hin;have hpk:=hPk.out i hin;have cv:=hC.out wr ov4 he4 _ hpk;have hxr:=Hr.out ((ZF cs).getD i 0);rw [←zCc cs i (by rw [←Hn.out];exact hin)] at cv hxr;have hb5:=hb4.out;have hdr:=zCg j (zT cs) 0 i (by rw [show (zT cs).length=(ZF cs).length by simp [zT],←Hn.out];exact hin);simp only [Nat.zero_add] at hdr;rw [hdr] at hb5;obtain ⟨p,hp⟩:∃ p,p=(ZF cs).getD i 0:=⟨_,rfl⟩;obtain ⟨x,hx⟩:∃ x,x=(zT cs).getD i 0:=⟨_,rfl⟩;rw [←hp] at cp cv hpk;rw [←hx] at cv hxr hb5;have hlx:=zE3 j i x hxr.1 hxr.2;have Hb5:=zh hb5;have Hlx:=zh hlx;clear hp hx hw4 he4 hb4 hb5 hdr hlx
         by_cases hij:i<j
         ·by_cases hx0:x<0
          ·go_wp2_with fail
           refine (zBv b ov4 bs4 1 1 wr H4.out (by decide) (by decide) (by omega)).mono ?_;rintro r w5 ⟨rfl,ov5,h5,e5⟩;have hbit:zF2 j i x=ZW 1 1:=by unfold zF2;rw [if_pos hij,if_pos hx0]
           rw [←hbit] at h5;have H5:=zh h5;have E5:=zh (E4.out.trans e5);clear h5 e5 hbit;go_wp2
           go_roundw
           case rel=>exact ⟨i+1,ov5,_,by omega,by go_num,H5.out,E5.out,zh (by rw [List.append_assoc];exact Hb5.out),zh (by have:=Hlx.out;rw [List.length_append];omega)⟩
           case measure=>simp [intOf]<;>omega
          ·go_wp2_with fail
           refine (zBv b ov4 bs4 0 1 wr H4.out (by decide) (by decide) (by omega)).mono ?_;rintro r w5 ⟨rfl,ov5,h5,e5⟩;have hbit:zF2 j i x=ZW 0 1:=by unfold zF2;rw [if_pos hij,if_neg (by omega)]
           rw [←hbit] at h5;have H5:=zh h5;have E5:=zh (E4.out.trans e5);clear h5 e5 hbit;go_wp2
           go_roundw
           case rel=>exact ⟨i+1,ov5,_,by omega,by go_num,H5.out,E5.out,zh (by rw [List.append_assoc];exact Hb5.out),zh (by have:=Hlx.out;rw [List.length_append];omega)⟩
           case measure=>simp [intOf]<;>omega
         ·by_cases hnear:i=j∧j<3
          ·obtain ⟨hij2,hj3⟩:=hnear
           by_cases hx0:0<x
           ·have hbit:zF2 j i x=seN (x-1):=by unfold zF2;rw [if_neg hij,if_pos ⟨hij2,hj3⟩,if_pos hx0]
            have Hbit:=zh hbit;have hij3:(i:Int)=(j:Int):=by omega
            have hb1:((i:Int)==(j:Int))=true:=by simp [hij3]
            clear hbit hij2 hij3
            go_wp2_with fail
            all_goals
             refine (zGo b ov4 bs4 (x-1) wr H4.out (by omega) (by omega) (by omega)).mono ?_;rintro r w5 ⟨rfl,ov5,h5,e5⟩;rw [←Hbit.out] at h5;have H5:=zh h5;have E5:=zh (E4.out.trans e5);clear h5 e5;go_wp2
             go_roundw
             case rel=>exact ⟨i+1,ov5,_,by omega,by go_num,H5.out,E5.out,zh (by rw [List.append_assoc];exact Hb5.out),zh (by have:=Hlx.out;rw [List.length_append];omega)⟩
             case measure=>simp [intOf]<;>omega
           ·have hbit:zF2 j i x=seN (x+1):=by unfold zF2;rw [if_neg hij,if_pos ⟨hij2,hj3⟩,if_neg hx0]
            have Hbit:=zh hbit;have hij3:(i:Int)=(j:Int):=by omega
            have hb1:((i:Int)==(j:Int))=true:=by simp [hij3]
            clear hbit hij2 hij3
            go_wp2_with fail
            all_goals
             refine (zGo b ov4 bs4 (x+1) wr H4.out (by omega) (by omega) (by omega)).mono ?_;rintro r w5 ⟨rfl,ov5,h5,e5⟩;rw [←Hbit.out] at h5;have H5:=zh h5;have E5:=zh (E4.out.trans e5);clear h5 e5;go_wp2
             go_roundw
             case rel=>exact ⟨i+1,ov5,_,by omega,by go_num,H5.out,E5.out,zh (by rw [List.append_assoc];exact Hb5.out),zh (by have:=Hlx.out;rw [List.length_append];omega)⟩
             case measure=>simp [intOf]<;>omega
          ·have hbit:zF2 j i x=seN x:=by unfold zF2;rw [if_neg hij,if_neg hnear]
           have Hbit:=zh hbit;have hor:((i:Int)==(j:Int))=false∨(((i:Int)==(j:Int))=true∧(3:Int)≤j):=by
            by_cases hij3:(i:Int)=(j:Int)
            ·exact .inr ⟨by simp [hij3],by omega⟩
            ·exact .inl (by simpa using hij3)
           clear hbit hnear
           rcases hor with hb1|⟨hb1,hj3⟩
           all_goals go_wp2_with fail
           all_goals
            refine (zGo b ov4 bs4 x wr H4.out (by omega) (by omega) (by omega)).mono ?_;rintro r w5 ⟨rfl,ov5,h5,e5⟩;rw [←Hbit.out] at h5;have H5:=zh h5;have E5:=zh (E4.out.trans e5);clear h5 e5;go_wp2
            go_roundw
            case rel=>exact ⟨i+1,ov5,_,by omega,by go_num,H5.out,E5.out,zh (by rw [List.append_assoc];exact Hb5.out),zh (by have:=Hlx.out;rw [List.length_append];omega)⟩
            case measure=>simp [intOf]<;>omega
        ·obtain rfl:i=n:=by omega
         have hb5:bs4=bs++zCu i k++zCu j M++zBs j 0 (zT cs):=by
          have:=hb4.out;rw [List.drop_eq_nil_of_le (by rw [show (zT cs).length=(ZF cs).length by simp [zT],←Hn.out];exact Nat.le_refl _)] at this
          simpa [zBs] using this
         have Hb5:=zh hb5;have c0:=hP2.out wr ov4 he4 0 (by omega);have hf0:=Hfall.out 0 (by omega);have hp0:=hPk.out 0 (by omega);rw [show zDP cs cs.length=ZF cs from rfl,←Hn.out] at hf0;obtain ⟨p,hp⟩:∃ p,p=(ZF cs).getD 0 0:=⟨_,rfl⟩;rw [←hp] at c0 hf0 hp0;have hf1:=hf0.1;obtain ⟨L,hL⟩:∃ L,L=p+1-i:=⟨_,rfl⟩;have hLi:((p:Int)+1-(i:Int))=(L:Int):=by omega
         have hDi:((k:Int)-(i:Int))=((k-i:Nat):Int):=by omega
         have HL:=zh hL;have HLi:=zh hLi;have HDi:=zh hDi;have Hp:=zh hp;have Hf1:=zh hf1;have hLk:L≤k-i:=by omega
         clear hw4 he4 hb4 hl4 hb5 hf0 hf1 hL hLi hDi hp
         go_wp2_with fail
         rw [HLi.out,HDi.out];refine (zLI b ov4 bs4 L (k-i) wr H4.out hLk (by omega) (by omega)).mono ?_;rintro r w5 ⟨rfl,ov5,h5,e5⟩;have H5:=zh h5;have E5:=zh (E4.out.trans e5);have HB5:Hid ((bs4++zCu L (k-i)).length≤bs.length+1400):=zh (by have:=zAO L (k-i) hLk (by omega);rw [List.length_append];omega);clear h5 e5;go_wp2
         go_loopw [12,13] (fun pl q wr=>∃ (m L2:Nat) (ov6:Value) (bs6:List Int),m+1≤i∧pl=.int .i64 L2∧q=.int .i64 m∧WrIs wr b ov6 bs6∧EncTo w1 wr b ov ov6∧Hid (L2=(ZF cs).getD m 0-(i-1-m))∧Hid (bs6++zA4 L2 ((ZF cs).drop m)=bs4++zCu L (k-i)++zA4 L (ZF cs))∧Hid (bs6.length≤bs.length+1400+63*m)) (fun _ q _=>i-(intOf q).toNat)
         case atStart=>exact ⟨0,L,ov5,_,by omega,rfl,rfl,H5.out,E5.out,zh (by rw [←Hp.out,HL.out];omega),zh (by simp),zh (by have:=HB5.out;omega)⟩
         case round=>
          obtain ⟨m,L2,ov6,bs6,hm,rfl,rfl,hw6,he6,hL2,hb6,hl6⟩:=hrel;have H6:=zh hw6;have E6:=zh he6;have hll6:=hl6.out
          by_cases hgo:m+1<i∧0<L2
          ·obtain ⟨hm1,hL20⟩:=hgo;have ca:=hP2.out wr ov6 he6 m (by omega);have cb:=hP2.out wr ov6 he6 (m+1) (by omega);have hfa:=Hfall.out m (by omega);have hfb:=Hfall.out (m+1) (by omega);have hpa:=hPk.out m (by omega);have hb7:=hb6.out;rw [zDi _ _ _ (by have:=Hn.out;omega) (by omega)] at hb7;have hL3:=hL2.out;rw [show zDP cs cs.length=ZF cs from rfl,←Hn.out] at hfa hfb;obtain ⟨pa,hpae⟩:∃ pa,pa=(ZF cs).getD m 0:=⟨_,rfl⟩;obtain ⟨pb,hpbe⟩:∃ pb,pb=(ZF cs).getD (m+1) 0:=⟨_,rfl⟩;rw [←hpae] at ca hfa hpa hb7 hL3;rw [←hpbe] at cb hfa hfb hb7;have hlt3:=hfa.2.2 (by omega);have hge3:=hfb.1;obtain ⟨R,hR⟩:∃ R,R=pa-pb-1:=⟨_,rfl⟩;rw [←hR] at hb7;have hRi:(pa:Int)-(pb:Int)-1=(R:Int):=by omega
           have hRL:R≤L2:=by omega
           have hLR:(L2:Int)-(R:Int)=((L2-R:Nat):Int):=by omega
           have hL4:L2-R=pb-(i-1-(m+1)):=by omega
           have hte:zCu R L2=teN R L2:=by unfold zCu;rw [if_neg (by omega)]
           have HRi:=zh hRi;have HLR:=zh hLR;have HL4:=zh hL4;have Hte:=zh hte;have Hb7:=zh hb7;have Hpb:=zh hpbe;have hmi:((m:Int)+1)=((m+1:Nat):Int):=by omega
           have Hmi:=zh hmi;have hL216:L2≤16:=by omega
           have Hs:=zh (And.intro hlt3 hge3);have hpb16:pb≤16:=by omega
           have hR16:R≤16:=by omega
           clear hfa hfb hb7 hL3 hL2 hb6 hpae hpbe hR hRi hLR hL4 hte hmi hlt3 hge3 hw6 he6;go_wp2
           go_region
           rw [HRi.out];have H7:Hid (WrIs wr.drew b ov6 bs6):=zh (H6.out.drewN 1);have E7:Hid (EncTo w1 wr.drew b ov ov6):=zh E6.out.drew;clear ca cb H6 E6;generalize wr.drew=wd at*
           go_wp2_with fail
           refine (zLI b ov6 bs6 R L2 wd H7.out hRL hL216 (by omega)).mono ?_;rintro r w8 ⟨rfl,ov8,h8,e8⟩;rw [Hte.out] at h8;have H8:=zh h8;have E8:=zh (E7.out.trans e8);have hl8:Hid ((teN R L2).length≤63):=zh (zDc R L2 hRL (by omega));clear h8 e8;go_wp2;rw [HLR.out,Hmi.out]
           go_roundw
           case rel=>exact ⟨m+1,L2-R,ov8,_,by omega,rfl,rfl,H8.out,E8.out,zh (by rw [←Hpb.out];exact HL4.out),zh (by rw [List.append_assoc];exact Hb7.out),zh (by have:=hl8.out;rw [List.length_append];omega)⟩
           case measure=>simp [intOf]<;>omega
          ·have hb7:bs6=bs++zEG cs:=by
            have h1:=hb6.out;rw [zDI _ _ _ (by have:=Hn.out;omega),List.append_nil,Hb5.out] at h1;rw [h1];unfold zEG;rw [←Hn.out,if_neg hn0,←Hp.out,←HL.out,←HN.out,←HO1.out,←HM.out];simp only [List.append_assoc]
           have H7:Hid (WrIs wr b ov6 (bs++zEG cs)):=zh (hb7▸hw6);have E7:Hid (EncTo w wr b ov ov6):=zh (EncTo.trans ⟨HO.out.mono (by simp),fun _ h=> .inl h⟩ he6);have hor:((i:Int)≤(m:Int)+1)∨((m:Int)+1<i∧(L2:Int)≤0):=by omega
           clear hb7 hw6 he6 hgo hL2 hb6
           rcases hor with h1|⟨h1,h2⟩
           all_goals
            go_wp2;go_ret;exact ⟨rfl,ov6,H7.out,E7.out⟩
def LrIs (w:World) (kb b:Nat):Prop:=w.heap[kb]? =some (.cells #[.pointer (some ⟨b,0,none⟩)] 360 (0,0))
theorem LrIs.only {w w':World} {S:List Nat} {kb b:Nat} (h:LrIs w kb b) (ho:Only S w w') (hb:kb∉S):LrIs w' kb b:=ho.heap h hb
theorem LrIs.ne {w:World} {kb b p:Nat} {s:ByteArray} (h:LrIs w kb b) (k:RdIs w b s p):kb≠b:=by
 rintro rfl;unfold LrIs at h;unfold RdIs at k;rw [h] at k;simp at k
theorem zKA (kb:Nat) (x:Int) (w:World):Calls Tryz.prog 272 #[.pointer (some ⟨kb,0,none⟩),.int .i64 x,.int .i64 0] w fun r w'=>r=.returned (.int .i64 x)∧w=w':=by
 go_enter Tryz.func272,Tryz.ntmps272
 go_wp2;go_ret;exact ⟨rfl,rfl⟩
theorem zIT (kb b:Nat) (s:ByteArray) (p x most:Nat) (w:World) (hk:LrIs w kb b) (h:RdIs w b s p) (hH:Holds s p (zCu x most)) (hx:x≤most) (hm:most≤16) (hs:s.size≤140737488355328):
 Calls Tryz.prog 271 #[.pointer (some ⟨kb,0,none⟩),.int .i64 most] w fun r w'=>r=.returned (.int .i64 x)∧RdIs w' b s (p+(zCu x most).length)∧Only [b] w w':=by
 have ck:w.cell? ⟨kb,0,none⟩=some (.pointer (some ⟨b,0,none⟩)):=by rw [zA hk];rfl
 have H:=zh h;unfold zCu at hH ⊢;clear h hk
 go_enter Tryz.func271,Tryz.ntmps271
 by_cases h0:most=0
 ·subst h0;obtain rfl:x=0:=by omega
  clear hH;rw [if_pos rfl];go_wp2;go_ret;exact ⟨rfl,H.out,Only.refl _ _⟩
 ·rw [if_neg h0] at hH ⊢;have HH:=zh hH;clear hH
  go_wp2_with fail
  refine (zNL b s p x most w H.out HH.out (by omega) hx (by omega) hs).mono ?_;rintro r w1 ⟨rfl,h1,h2⟩;have H1:=zh h1;have H2:=zh h2;clear h1 h2
  go_wp2_with fail
  refine (zKA kb x w1).mono ?_;rintro r w2 ⟨rfl,rfl⟩;go_wp2;go_ret;exact ⟨rfl,H1.out,H2.out⟩
def zB3 (near:Bool) (v:Int):Int:=if near then (if 0<v then v-1 else v+1) else v
theorem zJ1 {v:Int} (h:0<zB3 true v) (hv0:v≠0):v=zB3 true v+1:=by
 have e:zB3 true v=(if 0<v then v-1 else v+1):=rfl;rw [e] at h ⊢
 by_cases hv:0<v
 ·rw [if_pos hv] at h ⊢;omega
 ·rw [if_neg hv] at h ⊢;omega
theorem zJ2 {v:Int} (h:¬ 0<zB3 true v) (h0:zB3 true v≠0):v=zB3 true v-1:=by
 have e:zB3 true v=(if 0<v then v-1 else v+1):=rfl;rw [e] at h h0 ⊢
 by_cases hv:0<v
 ·rw [if_pos hv] at h h0 ⊢;omega
 ·rw [if_neg hv] at h h0 ⊢;omega
theorem zHy (near:Bool) {v:Int} (hv:-32767≤v∧v≤32767):-32767≤zB3 near v∧zB3 near v≤32767:=by
 cases near
 ·exact hv
 ·have e:zB3 true v=(if 0<v then v-1 else v+1):=rfl;rw [e]
  split<;>omega
theorem zLJ (kb b:Nat) (s:ByteArray) (p:Nat) (near:Bool) (v:Int) (w:World) (hk:LrIs w kb b) (h:RdIs w b s p) (hH:Holds s p (seN (zB3 near v))) (hv:-32767≤v∧v≤32767) (hv0:v≠0) (hn:zB3 near v≠0) (hs:s.size≤140737488355328):
 Calls Tryz.prog 273 #[.pointer (some ⟨kb,0,none⟩),.bool near] w fun r w'=>r=.returned (.int .i64 v)∧RdIs w' b s (p+(seN (zB3 near v)).length)∧Only [b] w w':=by
 have ck:w.cell? ⟨kb,0,none⟩=some (.pointer (some ⟨b,0,none⟩)):=by rw [zA hk];rfl
 have H:=zh h;have HH:=zh hH;obtain ⟨c,hc⟩:∃ c,c=zB3 near v:=⟨_,rfl⟩;have hcr:-32767≤c∧c≤32767:=by rw [hc];exact zHy near hv
 rw [←hc] at hn ⊢;have Hc:=zh hc;replace hv0:=zh hv0;have hcb:(c==0)=false:=by simpa using hn
 clear h hk hH hc
 go_enter Tryz.func273,Tryz.ntmps273
 go_wp2_with fail
 refine (zNM b s p c w H.out (by rw [Hc.out];exact HH.out) (by omega) (by omega) hs).mono ?_;rintro r w1 ⟨rfl,h1,h2⟩;have H1:=zh h1;have H2:=zh h2;clear h1 h2
 go_wp2_with fail
 refine (zKA kb c w1).mono ?_;rintro r w2 ⟨rfl,rfl⟩;have hcc:=Hc.out
 cases near with
 |false=>
  rw [show zB3 false v=v from rfl] at hcc;subst hcc;clear Hc HH;go_wp2;go_ret;exact ⟨rfl,H1.out,H2.out⟩
 |true=>
  by_cases h0:0<c
  ·have e:v=c+1:=by rw [hcc] at h0 ⊢;exact zJ1 h0 hv0.out
   subst e;clear Hc HH hcc;go_wp2;go_ret;exact ⟨rfl,H1.out,H2.out⟩
  ·have e:v=c-1:=by rw [hcc] at h0 hn ⊢;exact zJ2 h0 hn
   subst e;clear Hc HH hcc;go_wp2;go_ret;exact ⟨rfl,H1.out,H2.out⟩
theorem zJ7 (ones i:Nat) (v:Int) (h:ones≤i):zF2 ones i v=seN (zB3 (((i:Int)==(ones:Int))&&decide ((ones:Int)<3)) v):=by
 unfold zF2 zB3;rw [if_neg (by omega)]
 by_cases h1:i=ones∧ones<3
 ·have e1:((i:Int)==(ones:Int))=true:=by simp [h1.1]
  have e2:decide ((ones:Int)<3)=true:=decide_eq_true (by omega);rw [if_pos h1,e1,e2]
  rfl
 ·have e:(((i:Int)==(ones:Int))&&decide ((ones:Int)<3))=false:=by
   by_cases h2:i=ones
   ·rw [decide_eq_false (by omega),Bool.and_false]
   ·rw [show ((i:Int)==(ones:Int))=false by simp;omega,Bool.false_and]
  rw [if_neg h1,e]
  rfl
theorem zFz {w w':World} {B b n:Nat} {v:Value} {xs:List Value} (h:w.ownsRow B 3 1 v n xs) (ho:Only [b] w w') (hb:b<B):w'.ownsRow B 3 1 v n xs:=
 zF h (fun z hz=>by
  obtain ⟨c,hc⟩:=zD h hz;refine ho.block z (lt_of_block hc) (fun e=>?_);have:z=b:=by simpa using e
  rcases h.2 with ⟨h1,_⟩|⟨g',cap',cur',h1,h2,_⟩
  ·rw [h1] at hz;simp [Value.ownBlock] at hz
  ·rw [h1] at hz;simp [Value.ownBlock] at hz;omega)
theorem zHI (xs:List Int) (k:Nat) (h:k<xs.length):((xs.take k).map (Value.int .i64))++[Value.int .i64 (xs.getD k 0)]=(xs.take (k+1)).map (Value.int .i64):=by
 rw [List.take_add_one,List.map_append,List.getElem?_eq_getElem h];simp [List.getElem?_eq_getElem h,List.getD]
theorem zLK (kb b:Nat) (s:ByteArray) (p:Nat) (cs:List Int) (w:World) (hk:LrIs w kb b) (h:RdIs w b s p) (hH:Holds s p (zEG cs)) (hsz:cs.length=4∨cs.length=15∨cs.length=16) (hr:rangeB cs=true) (hs:s.size≤140737488355328):
 Calls Tryz.prog 270 #[.pointer (some ⟨kb,0,none⟩),.int .i64 cs.length] w fun r w'=>∃ g,r=.returned (.slice (some ⟨g,0,none⟩) cs.length cs.length)∧w'.heap[g]? =some (.cells (ints cs) 3 (0,0))∧w.heap.size≤g∧RdIs w' b s (p+(zEG cs).length)∧Only [b] w w':=by
 have hkb:=hk.ne h;have hbs:b<w.heap.size:=lt_of_block h;have hks:kb<w.heap.size:=lt_of_block hk;have hplN:(ZF cs).length≤cs.length:=zAk cs _;have hrange:=fun i=>zCN hr i
 obtain ⟨N,hN⟩:∃ N,N=cs.length:=⟨_,rfl⟩;obtain ⟨n,hn⟩:∃ n,n=(ZF cs).length:=⟨_,rfl⟩;rw [←hN] at hsz hplN ⊢;rw [←hn] at hplN;have hN16:N≤16:=by omega
 have hN4:4≤N:=by omega
 have HK:=zh hk;have H:=zh h;have HH:=zh hH;have HN:=zh hN;have Hn:=zh hn;have Hr:=zh hrange;have htot:∃ T,T=p+(zEG cs).length:=⟨_,rfl⟩;obtain ⟨T,hT⟩:=htot;rw [←hT];have HT:=zh hT;clear hk h hH hN hn hr hrange hsz hT
 go_enter Tryz.func270,Tryz.ntmps270
 go_wp2_with (at_make;refine zCG rfl _ _ rfl zEQ rfl N rfl rfl rfl rfl (by decide) (by omega) ?_)
 intro w1 hz1 ho1 hs1;have Hs1:=zh hs1;clear hs1;have HZ:=zh hz1;have HO1:Hid (Only [b] w w1):=zh (ho1.mono (by simp));have HK1:Hid (LrIs w1 kb b):=zh (HK.out.only ho1 (by simp));have H1:Hid (RdIs w1 b s p):=zh (H.out.only ho1 (by simp));have hH1:=HH.out;unfold zEG at hH1;rw [←Hn.out,←HN.out] at hH1;have HH1:=zh hH1;clear hz1 ho1 hH1 HK
 go_wp2_with fail
 refine (zIT kb b s p n N w1 HK1.out H1.out HH1.out.left hplN hN16 hs).mono ?_;rintro r w2 ⟨rfl,h2,o2⟩;have H2:=zh h2;have O2:Hid (Only [b] w w2):=zh (HO1.out.trans o2);have HK2:Hid (LrIs w2 kb b):=zh (HK1.out.only o2 (by simpa using hkb));have HZ2:Hid (w2.heap[w.heap.size]? =some (.cells (zES N (.int .i64 0)) 3 (0,0))):=zh (o2.heap HZ.out (by simp;omega));have hsz2:w.heap.size+1≤w2.heap.size:=by have:=o2.size;have:=Hs1.out;omega
 clear h2 o2 HZ HK1 H1
 by_cases hn0:n=0
 ·subst hn0;go_wp2;go_ret;refine ⟨_,rfl,?_,by omega,?_,O2.out⟩
  ·rw [HZ2.out,zAL,HN.out,←zHB,show (0:Nat)=(ZF cs).length from Hn.out,zIN]
  ·have e:(zEG cs).length=(zCu 0 N).length:=by
    unfold zEG;rw [←Hn.out,←HN.out,if_pos rfl,List.append_nil]
   rw [HT.out,e];exact H2.out
 ·obtain ⟨O,hO⟩:∃ O,O=zBO 3 (zT cs):=⟨_,rfl⟩;have hlv:(zT cs).length=n:=by rw [Hn.out];simp [zT]
  have hO3:O≤3:=by rw [hO];exact (zCf 3 _).1
  have hOn:O≤n:=by rw [hO,←hlv];exact (zCf 3 _).2
  have hOa:Hid (∀ i,i<O→(zT cs).getD i 0=1∨(zT cs).getD i 0=-1):=zh (by rw [hO];exact zGX 3 _);have hOs:Hid (O<3→O<n→¬ ((zT cs).getD O 0=1∨(zT cs).getD O 0=-1)):=zh (by rw [hO,←hlv];exact zDl 3 _);have hVr:Hid (∀ i,i<n→-32767≤(zT cs).getD i 0∧(zT cs).getD i 0≤32767∧(zT cs).getD i 0≠0):=zh (fun i hi=>by
   have h1:=zKz cs i (by rw [←Hn.out];exact hi);have h2:=Hr.out ((ZF cs).getD i 0);rw [←zCc cs i (by rw [←Hn.out];exact hi)] at h2;exact ⟨h2.1,h2.2,h1⟩)
  obtain ⟨M,hM⟩:∃ M:Nat,M=min 3 n:=⟨_,rfl⟩;have hMi:(min (3:Int) (n:Int))=(M:Int):=by omega
  have hOM:O≤M:=by omega
  have hM16:M≤16:=by omega
  have hH2:=HH1.out.right;rw [if_neg hn0,←hO,←hM] at hH2;have hT2:=HT.out;unfold zEG at hT2;rw [←Hn.out,←HN.out,if_neg hn0,←hO,←hM,List.length_append,←Nat.add_assoc] at hT2;have Hlv:=zh hlv;have HMi:=zh hMi;have HH2:=zh hH2;have HT2:=zh hT2;clear hO hM hlv hMi hH2 hT2;obtain ⟨REST,hREST⟩:∃ R,R=zCu ((ZF cs).getD 0 0+1-n) (N-n)++zA4 ((ZF cs).getD 0 0+1-n) (ZF cs):=⟨_,rfl⟩;have HREST:=zh hREST;clear hREST;obtain ⟨q2,hq2⟩:∃ q,q=p+(zCu n N).length:=⟨_,rfl⟩;have H3:Hid (RdIs w2 b s q2):=zh (by rw [hq2];exact H2.out);have HH3:Hid (Holds s q2 (zCu O M++(zBs O 0 (zT cs)++REST))):=zh (by rw [hq2,HREST.out];exact HH2.out);have HT3:Hid (T=q2+(zCu O M++(zBs O 0 (zT cs)++REST)).length):=zh (by rw [hq2,HREST.out];exact HT2.out);clear hq2 HT2 HH2 H2
  go_wp2_with fail
  rw [HMi.out];refine (zIT kb b s q2 O M w2 HK2.out H3.out HH3.out.left hOM hM16 hs).mono ?_;rintro r w3 ⟨rfl,h4,o4⟩;have H4:=zh h4;have O4:Hid (Only [b] w w3):=zh (O2.out.trans o4);have hsz4:=o4.size;have HK4:Hid (LrIs w3 kb b):=zh (HK2.out.only o4 (by simpa using hkb));have HZ4:Hid (w3.heap[w.heap.size]? =some (.cells (zES N (.int .i64 0)) 3 (0,0))):=zh (o4.heap HZ2.out (by simp;omega));clear h4 o4 HZ2 HK2 H3;go_wp2
  go_loopw [8,28] (fun v q wr=>∃ (i pos:Nat),i≤O∧q=.int .i64 i∧wr.ownsRow (w.heap.size+1) 3 1 v i (((zT cs).take i).map (Value.int .i64))∧RdIs wr b s pos∧Hid (Holds s pos (zBs O i ((zT cs).drop i)++REST))∧Hid (T=pos+(zBs O i ((zT cs).drop i)++REST).length)∧Only [b] w wr∧LrIs wr kb b∧wr.heap[w.heap.size]? =some (.cells (zES N (.int .i64 0)) 3 (0,0))∧w.heap.size+1≤wr.heap.size) (fun _ q _=>O-(intOf q).toNat)
  case atStart=>exact ⟨0,q2+(zCu O M).length,Nat.zero_le _,rfl,World.ownsRow_nil _ _ _ _,H4.out,zh (by rw [List.drop_zero];exact HH3.out.right),zh (by rw [List.drop_zero,HT3.out,List.length_append];omega),O4.out,HK4.out,HZ4.out,by omega⟩
  case round=>
   obtain ⟨i,pos,hi,rfl,hown,hr5,hH5,hT5,ho5,hk5,hz5,hs5⟩:=hrel;have HOwn:=zh hown;have R5:=zh hr5;have HO5:=zh ho5;have HK5:=zh hk5;have HZ5:=zh hz5
   by_cases hlt:i<O
   ·have ck:wr.cell? ⟨kb,0,none⟩=some (.pointer (some ⟨b,0,none⟩)):=by rw [zA hk5];rfl
    have hdr:=zCg O (zT cs) 0 i (by rw [Hlv.out];omega);simp only [Nat.zero_add] at hdr;have hH6:=hH5.out;have hT6:=hT5.out;rw [hdr,List.append_assoc] at hH6 hT6;have hx1:=hOa.out i hlt;obtain ⟨x,hx⟩:∃ x,x=(zT cs).getD i 0:=⟨_,rfl⟩;rw [←hx] at hx1 hH6 hT6;obtain ⟨y,hy⟩:∃ y:Nat,y=if x<0 then 1 else 0:=⟨_,rfl⟩;have hbit:zF2 O i x=ZW y 1:=by unfold zF2;rw [if_pos hlt,hy]
    have hyx:(1:Int)-2*(y:Int)=x:=by rcases hx1 with rfl|rfl<;>(rw [hy];decide)
    have hy1:y≤1:=by rw [hy];split<;>omega
    rw [hbit] at hH6 hT6;have HH6:=zh hH6;have HT6:=zh hT6;have Hyx:=zh hyx;have Hx:=zh hx;clear hH5 hT5 hH6 hT6 hdr hy hbit hyx hx hx1 hown hr5 ho5 hk5 hz5
    go_wp2_with fail
    refine (zCL b s pos y 1 wr R5.out HH6.out.left (by omega) (by decide) hs).mono ?_;rintro r w6 ⟨rfl,h6,o6⟩;have R6:=zh h6;have O6:Hid (Only [b] w w6):=zh (HO5.out.trans o6);have hsz6:=o6.size;have K6:Hid (LrIs w6 kb b):=zh (HK5.out.only o6 (by simpa using hkb));have Z6:Hid (w6.heap[w.heap.size]? =some (.cells (zES N (.int .i64 0)) 3 (0,0))):=zh (o6.heap HZ5.out (by simp;omega));have Own6:=zh (zFz (w':=w6) HOwn.out o6 (by omega));clear h6 o6
    go_wp2_with fail
    refine (zKA kb y w6).mono ?_;rintro r w7 ⟨rfl,rfl⟩
    go_wp2_with (at_builtin;first|rw [Hyx.out]|skip;refine zf rfl _ _ rfl zEQ (w.heap.size+1) _ _ _ _ Own6.out rfl rfl (by simp) rfl (by omega) (by decide) (by omega) ?_)
    intro g7 cap7 w7 hp;obtain ⟨o7,b7⟩:=zBG hp Own6.out;have O7:Hid (Only [b] w w7):=zh (O6.out.trans' o7 (fun i hi=> .inr (by have:=(b7 i (by simpa using hi)).1;omega)));have R7:Hid (RdIs w7 b s (pos+(ZW y 1).length)):=zh (R6.out.only o7 (fun e=>by have:=(b7 b (by simpa using e)).1;omega));have K7:Hid (LrIs w7 kb b):=zh (K6.out.only o7 (fun e=>by have:=(b7 kb (by simpa using e)).1;omega));have Z7:Hid (w7.heap[w.heap.size]? =some (.cells (zES N (.int .i64 0)) 3 (0,0))):=zh (o7.heap Z6.out (fun e=>by have:=(b7 w.heap.size (by simpa using e)).1;omega));have hsz7:=o7.size;have Own7:=zh (show w7.ownsRow (w.heap.size+1) 3 1 (.slice (some ⟨g7,0,none⟩) (i+1) cap7) (i+1) (((zT cs).take (i+1)).map (Value.int .i64)) from zS hp.1 rfl (by rw [←zHI _ _ (by rw [Hlv.out];omega),←Hx.out,List.map_take]));clear hp o7 b7;go_wp2
    go_roundw
    case rel=>exact ⟨i+1,_,by omega,by go_num,Own7.out,R7.out,zh HH6.out.right,zh (by rw [HT6.out,List.length_append];omega),O7.out,K7.out,Z7.out,by omega⟩
    case measure=>simp [intOf]<;>omega
   ·obtain rfl:i=O:=by omega
    clear hown hr5 ho5 hk5 hz5;go_wp2
    go_loopw [8,9] (fun v q wr=>∃ (m pos:Nat),i≤m∧m≤n∧q=.int .i64 m∧wr.ownsRow (w.heap.size+1) 3 1 v m (((zT cs).take m).map (Value.int .i64))∧RdIs wr b s pos∧Hid (Holds s pos (zBs i m ((zT cs).drop m)++REST))∧Hid (T=pos+(zBs i m ((zT cs).drop m)++REST).length)∧Only [b] w wr∧LrIs wr kb b∧wr.heap[w.heap.size]? =some (.cells (zES N (.int .i64 0)) 3 (0,0))∧w.heap.size+1≤wr.heap.size) (fun _ q _=>n-(intOf q).toNat)
    case atStart=>exact ⟨i,pos,Nat.le_refl _,hOn,rfl,HOwn.out,R5.out,hH5,hT5,HO5.out,HK5.out,HZ5.out,hs5⟩
    case round=>
     obtain ⟨m,pos2,him,hmn,rfl,hown,hr6,hH6,hT6,ho6,hk6,hz6,hs6⟩:=hrel;have HOwn:=zh hown;have R6:=zh hr6;have HO6:=zh ho6;have HK6:=zh hk6;have HZ6:=zh hz6
     by_cases hlt2:m<n
     ·have hdr:=zCg i (zT cs) 0 m (by rw [Hlv.out];omega);simp only [Nat.zero_add] at hdr;have hH7:=hH6.out;have hT7:=hT6.out;rw [hdr,List.append_assoc,zJ7 i m _ him] at hH7 hT7;have hv:=hVr.out m hlt2;have hnz:zB3 (((m:Int)==(i:Int))&&decide ((i:Int)<3)) ((zT cs).getD m 0)≠0:=by
       by_cases hnr:m=i∧i<3
       ·have e1:(((m:Int)==(i:Int))&&decide ((i:Int)<3))=true:=by rw [decide_eq_true (by omega),Bool.and_true];simp [hnr.1]
        rw [e1,hnr.1];have h9:=hOs.out hnr.2 (by omega);have h8:=hVr.out i (by omega);have e2:zB3 true ((zT cs).getD i 0)=(if 0<(zT cs).getD i 0 then (zT cs).getD i 0-1 else (zT cs).getD i 0+1):=rfl;rw [e2]
        split<;>omega
       ·have e1:(((m:Int)==(i:Int))&&decide ((i:Int)<3))=false:=by
         by_cases h2:m=i
         ·rw [decide_eq_false (by omega),Bool.and_false]
         ·rw [show ((m:Int)==(i:Int))=false by simp;omega,Bool.false_and]
        rw [e1];exact hv.2.2
      obtain ⟨x,hx⟩:∃ x,x=(zT cs).getD m 0:=⟨_,rfl⟩;rw [←hx] at hH7 hT7 hv hnz;have HH7:=zh hH7;have HT7:=zh hT7;have Hx:=zh hx;have Hv:=zh hv;have Hnz:=zh hnz;have hor:(((m:Int)==(i:Int))=true∧(i:Int)<3)∨(((m:Int)==(i:Int))=true∧(3:Int)≤i)∨((m:Int)==(i:Int))=false:=by
       by_cases h2:(m:Int)=(i:Int)
       ·have e:((m:Int)==(i:Int))=true:=by simp [h2]
        rcases Int.lt_or_le (i:Int) 3 with h3|h3
        ·exact .inl ⟨e,h3⟩
        ·exact .inr (.inl ⟨e,h3⟩)
       ·exact .inr (.inr (by simpa using h2))
      clear hH6 hT6 hH7 hT7 hdr hx hv hnz hown hr6 ho6 hk6 hz6;obtain ⟨nr,hnr⟩:∃ nr,nr=(((m:Int)==(i:Int))&&decide ((i:Int)<3)):=⟨_,rfl⟩;rw [←hnr] at HH7 HT7 Hnz
      rcases hor with ⟨h1,h2⟩|⟨h1,h2⟩|h1
      all_goals
       first|rw [h1,decide_eq_true h2] at hnr|rw [h1,decide_eq_false (by omega)] at hnr|rw [h1] at hnr
       simp only [Bool.and_true,Bool.and_false,Bool.false_and] at hnr;subst hnr
       go_wp2_with fail
       try rw [decide_eq_false (show ¬ (i:Int)<3 by omega)]
       refine (zLJ kb b s pos2 _ x wr HK6.out R6.out HH7.out.left ⟨Hv.out.1,Hv.out.2.1⟩ Hv.out.2.2 Hnz.out hs).mono ?_;rintro r w6 ⟨rfl,h6,o6⟩;have R6:=zh h6;have O6:Hid (Only [b] w w6):=zh (HO6.out.trans o6);have hsz6:=o6.size;have K6:Hid (LrIs w6 kb b):=zh (HK6.out.only o6 (by simpa using hkb));have Z6:Hid (w6.heap[w.heap.size]? =some (.cells (zES N (.int .i64 0)) 3 (0,0))):=zh (o6.heap HZ6.out (by simp;omega));have Own6:=zh (zFz (w':=w6) HOwn.out o6 (by omega));clear h6 o6 h1
       try clear h2
       go_wp2_with (at_builtin;refine zf rfl _ _ rfl zEQ (w.heap.size+1) _ _ _ _ Own6.out rfl rfl (by simp) rfl (by omega) (by decide) (by omega) ?_)
       intro g7 cap7 w7 hp;obtain ⟨o7,b7⟩:=zBG hp Own6.out;have O7:Hid (Only [b] w w7):=zh (O6.out.trans' o7 (fun i hi=> .inr (by have:=(b7 i (by simpa using hi)).1;omega)));have R7:=zh (R6.out.only o7 (fun e=>by have:=(b7 b (by simpa using e)).1;omega));have K7:Hid (LrIs w7 kb b):=zh (K6.out.only o7 (fun e=>by have:=(b7 kb (by simpa using e)).1;omega));have Z7:Hid (w7.heap[w.heap.size]? =some (.cells (zES N (.int .i64 0)) 3 (0,0))):=zh (o7.heap Z6.out (fun e=>by have:=(b7 w.heap.size (by simpa using e)).1;omega));have hsz7:=o7.size;have Own7:=zh (show w7.ownsRow (w.heap.size+1) 3 1 (.slice (some ⟨g7,0,none⟩) (m+1) cap7) (m+1) (((zT cs).take (m+1)).map (Value.int .i64)) from zS hp.1 rfl (by rw [←zHI _ _ (by rw [Hlv.out];omega),←Hx.out,List.map_take]));clear hp o7 b7;go_wp2
       go_roundw
       case rel=>exact ⟨m+1,_,by omega,by omega,by go_num,Own7.out,R7.out,zh HH7.out.right,zh (by rw [HT7.out,List.length_append];omega),O7.out,K7.out,Z7.out,by omega⟩
       case measure=>simp [intOf]<;>omega
     ·obtain rfl:m=n:=by omega
      have hdn:(zT cs).drop m=[]:=List.drop_eq_nil_of_le (by rw [Hlv.out];exact Nat.le_refl _);have hH7:=hH6.out;have hT7:=hT6.out;rw [hdn,show zBs i m []=[] from rfl,List.nil_append,HREST.out] at hH7 hT7;rw [List.length_append,←Nat.add_assoc] at hT7;obtain ⟨ao,capv,rfl,hu⟩:=zHA hown;obtain ⟨gv,rfl,hgv1,hgv2,hgv3⟩:=hu (by omega);have hPk:Hid (∀ j,j<m→(ZF cs).getD j 0<N):=zh (fun j hj=>by rw [HN.out];exact (zAb cs cs.length j (by have:=Hn.out;unfold ZF at this;omega)).2.1);have Hfall:Hid (∀ j,j<m→m-1-j≤(ZF cs).getD j 0∧(j+1<m→(ZF cs).getD (j+1) 0<(ZF cs).getD j 0)):=zh (fun j hj=>by
       have h1:=zAb cs cs.length j (by have:=Hn.out;unfold ZF at this;omega);rw [show zDP cs cs.length=ZF cs from rfl,←Hn.out] at h1;exact ⟨h1.1,h1.2.2⟩)
      have hm0:0<m:=by omega
      have hf0:=Hfall.out 0 hm0;have hp0:=hPk.out 0 hm0;obtain ⟨pp,hpp⟩:∃ pp,pp=(ZF cs).getD 0 0:=⟨_,rfl⟩;rw [←hpp] at hH7 hT7 hf0 hp0;have hf1:=hf0.1;obtain ⟨L,hL⟩:∃ L,L=pp+1-m:=⟨_,rfl⟩;rw [←hL] at hH7 hT7;have hDi:((N:Int)-(m:Int))=((N-m:Nat):Int):=by omega
      have hAt:((L:Int)+(m:Int)-1)=(pp:Int):=by omega
      have hLk:L≤N-m:=by omega
      have hVc:Hid (∀ j,j<m→wr.cell? ⟨gv,j,none⟩=some (.int .i64 ((zT cs).getD j 0))):=zh (fun j hj=>by
       rw [hgv3 j hj,List.getElem?_map,List.getElem?_take_of_lt (by omega),List.getElem?_eq_getElem (by rw [Hlv.out];exact hj)];simp [List.getD,List.getElem?_eq_getElem (show j<(zT cs).length by rw [Hlv.out];exact hj)])
      have HDi:=zh hDi;have HAt:=zh hAt;have HH7:=zh hH7;have HT7:=zh hT7;have HL:=zh hL;have Hpp:=zh hpp;have HZz:Hid (wr.heap[w.heap.size]? =some (.cells (ints (zHY cs 0)) 3 (0,0))):=zh (by rw [hz6,zAL,HN.out,zHB]);have hL16:L≤16:=by omega
      have hpp16:pp≤16:=by omega
      clear hown hr6 ho6 hk6 hz6 hu hgv3 hf0 hf1 hpp hL hDi hAt hH7 hT7 hdn hH6 hT6 HOwn HZ6 hp0
      go_wp2_with fail
      rw [HDi.out];refine (zIT kb b s pos2 L (N-m) wr HK6.out R6.out HH7.out.left hLk (by omega) hs).mono ?_;rintro r w7 ⟨rfl,h7,o7⟩;have R7:=zh h7;have O7:Hid (Only [b] w w7):=zh (HO6.out.trans o7);have hsz7:=o7.size;have K7:Hid (LrIs w7 kb b):=zh (HK6.out.only o7 (by simpa using hkb));have Z7:Hid (w7.heap[w.heap.size]? =some (.cells (ints (zHY cs 0)) 3 (0,0))):=zh (o7.heap HZz.out (by simp;omega));have V7:Hid (∀ j,j<m→w7.cell? ⟨gv,j,none⟩=some (.int .i64 ((zT cs).getD j 0))):=zh (fun j hj=>o7.cell (hVc.out j hj) (by simp;omega));clear h7 o7 HZz hVc;go_wp2;rw [HAt.out]
      go_loopw [10,11,74] (fun l a q wr=>∃ (j L2 pos3:Nat) (z:Int),j≤m∧l=.int .i64 L2∧a=.int .i64 z∧q=.int .i64 j∧Hid (j<m→z=(ZF cs).getD j 0)∧Hid (j<m→L2=(ZF cs).getD j 0-(m-1-j))∧RdIs wr b s pos3∧Hid (Holds s pos3 (zA4 L2 ((ZF cs).drop j)))∧Hid (T=pos3+(zA4 L2 ((ZF cs).drop j)).length)∧Only [b] w wr∧LrIs wr kb b∧wr.heap[w.heap.size]? =some (.cells (ints (zHY cs j)) 3 (0,0))∧Hid (∀ j,j<m→wr.cell? ⟨gv,j,none⟩=some (.int .i64 ((zT cs).getD j 0)))∧L2≤16∧-100≤z∧z≤100) (fun _ _ q _=>m-(intOf q).toNat)
      case atStart=>exact ⟨0,L,_,pp,Nat.zero_le _,rfl,rfl,rfl,zh (fun _=>by rw [←Hpp.out]),zh (fun _=>by rw [←Hpp.out,HL.out];omega),R7.out,zh (by rw [List.drop_zero];exact HH7.out.right),zh (by rw [List.drop_zero];exact HT7.out),O7.out,K7.out,Z7.out,V7,hL16,by omega,by omega⟩
      case round=>
       obtain ⟨j,L2,pos3,z,hj,rfl,rfl,rfl,hz8,hL8,hr8,hH8,hT8,ho8,hk8,hg8,hV8,hL28,hz81,hz82⟩:=hrel;have R8:=zh hr8;have O8:=zh ho8;have K8:=zh hk8;have G8:=zh hg8;have hsz8:=ho8.size
       by_cases hjm:j<m
       ·have hze:=hz8.out hjm;have hLe:=hL8.out hjm;have hpj:=hPk.out j hjm;have cv:=hV8.out j hjm;have hfj:=Hfall.out j hjm;have hst:=zJx cs j (by rw [←Hn.out];exact hjm);rw [←zCc cs j (by rw [←Hn.out];exact hjm)] at hst;have hdr:=zDi (ZF cs) L2 j;have hH9:=hH8.out;have hT9:=hT8.out;obtain ⟨pj,hpje⟩:∃ pj,pj=(ZF cs).getD j 0:=⟨_,rfl⟩;rw [←hpje] at hze hLe hpj hst hdr hfj;obtain ⟨x,hx⟩:∃ x,x=(zT cs).getD j 0:=⟨_,rfl⟩;rw [←hx] at cv hst;subst hze;have hol:(zHY cs j).length=N:=by rw [zHw,HN.out]
        have c8:wr.cell? ⟨w.heap.size,pj,none⟩=some (.int .i64 ((zHY cs j).getD pj 0)):=by rw [zA hg8];exact zBh _ _ (by rw [hol];exact hpj)
        have f8:=ZB hg8 pj;have hset:(wr.setCell ⟨w.heap.size,pj,none⟩ (.int .i64 x)).heap[w.heap.size]? =some (.cells (ints (zHY cs (j+1))) 3 (0,0)):=by
         rw [zB _ hg8,zBu,hst]
        have hos:Only [w.heap.size] wr (wr.setCell ⟨w.heap.size,pj,none⟩ (.int .i64 x)):=(Only.refl _ _).setCell (.inl (by simp)) _;have G9:=zh hset;have R9:=zh (R8.out.only hos (by simp;omega));have K9:=zh (K8.out.only hos (by simp;omega));have O9:Hid (Only [b] w (wr.setCell ⟨w.heap.size,pj,none⟩ (.int .i64 x))):=zh (O8.out.trans' hos (fun i hi=> .inr (by simp at hi;omega)));have V9:Hid (∀ j,j<m→(wr.setCell ⟨w.heap.size,pj,none⟩ (.int .i64 x)).cell? ⟨gv,j,none⟩=some (.int .i64 ((zT cs).getD j 0))):=zh (fun j hj=>hos.cell (hV8.out j hj) (by simp;omega));have HH9:=zh hH9;have HT9:=zh hT9;have Hdr:=zh hdr;have HLe:=zh hLe;have Hpj:=zh hpje;have Hfj:=zh hfj;clear hz8 hL8 hr8 hH8 hT8 ho8 hk8 hg8 hV8 hH9 hT9 hdr hLe hpje hfj hst hset hos hx G8 R8 K8 O8
        by_cases hgo:j+1<m∧0<L2
        ·obtain ⟨hg1,hg2⟩:=hgo;have hlt9:=Hfj.out.2 hg1;have hfk:=(Hfall.out (j+1) hg1).1;have hd9:=Hdr.out (by have:=Hn.out;omega) (by omega);obtain ⟨pb,hpb⟩:∃ pb,pb=(ZF cs).getD (j+1) 0:=⟨_,rfl⟩;rw [←hpb] at hlt9 hfk hd9;obtain ⟨R,hR⟩:∃ R,R=pj-pb-1:=⟨_,rfl⟩;rw [←hR] at hd9;have hle:=HLe.out;have hRL:R≤L2:=by omega
         have hte:zCu R L2=teN R L2:=by unfold zCu;rw [if_neg (by omega)]
         have hHa:=HH9.out;have hTa:=HT9.out;rw [hd9,←hte] at hHa hTa;have hz9:(pj:Int)-1-(R:Int)=(pb:Int):=by omega
         have hL9:(L2:Int)-(R:Int)=((L2-R:Nat):Int):=by omega
         have hL4:L2-R=pb-(m-1-(j+1)):=by omega
         have hpb16:pb≤16:=by omega
         have HHa:=zh hHa;have HTa:=zh hTa;have Hz9:=zh hz9;have HL9:=zh hL9;have HL4:=zh hL4;have Hpb:=zh hpb;clear hlt9 hfk hd9 hpb hR hle hte hHa hTa hz9 hL9 hL4 HH9 HT9 Hdr HLe Hfj
         go_wp2_with fail
         clear c8 f8 cv;generalize wr.setCell ⟨w.heap.size,pj,none⟩ (.int .i64 x)=w8 at*;refine (zIT kb b s pos3 R L2 w8 K9.out R9.out HHa.out.left hRL hL28 hs).mono ?_;rintro r w9 ⟨rfl,h9,o9⟩;have Ra:=zh h9;have Oa:Hid (Only [b] w w9):=zh (O9.out.trans o9);have Ka:Hid (LrIs w9 kb b):=zh (K9.out.only o9 (by simpa using hkb));have Ga:Hid (w9.heap[w.heap.size]? =some (.cells (ints (zHY cs (j+1))) 3 (0,0))):=zh (o9.heap G9.out (by simp;omega));have Va:Hid (∀ j,j<m→w9.cell? ⟨gv,j,none⟩=some (.int .i64 ((zT cs).getD j 0))):=zh (fun j hj=>o9.cell (V9.out j hj) (by simp;omega));clear h9 o9;go_wp2;rw [Hz9.out,HL9.out]
         go_roundw
         case rel=>exact ⟨j+1,L2-R,_,pb,by omega,rfl,rfl,by go_num,zh (fun _=>by rw [←Hpb.out]),zh (fun _=>by rw [←Hpb.out];exact HL4.out),Ra.out,zh HHa.out.right,zh (by rw [HTa.out,List.length_append];omega),Oa.out,Ka.out,Ga.out,Va,by omega,by omega,by omega⟩
         case measure=>simp [intOf]<;>omega
        ·have hend:zA4 L2 ((ZF cs).drop j)=[]:=zDI _ _ _ (by have:=Hn.out;omega);have hend2:zA4 L2 ((ZF cs).drop (j+1))=[]:=zDI _ _ _ (by have:=Hn.out;omega);have hHb:Hid (Holds s pos3 (zA4 L2 ((ZF cs).drop (j+1)))):=zh (by rw [hend2,←hend];exact HH9.out);have hTb:Hid (T=pos3+(zA4 L2 ((ZF cs).drop (j+1))).length):=zh (by rw [hend2,←hend];exact HT9.out);have hzb:Hid (j+1<m→((pj:Int)-1)=(ZF cs).getD (j+1) 0):=zh (fun h1=>by
          have h2:=Hfj.out;have h3:=(Hfall.out (j+1) h1).1;have h4:=h2.2 h1;have h5:=HLe.out;omega)
         have hLb:Hid (j+1<m→L2=(ZF cs).getD (j+1) 0-(m-1-(j+1))):=zh (fun h1=>by
          have h2:=Hfj.out;have h3:=(Hfall.out (j+1) h1).1;have h4:=h2.2 h1;have h5:=HLe.out;omega)
         have hor:((m:Int)≤(j:Int)+1)∨((j:Int)+1<m∧(L2:Int)≤0):=by omega
         clear hend hend2 hgo HH9 HT9 Hdr HLe Hfj
         rcases hor with h1|⟨h1,h2⟩
         all_goals
          go_wp2
          go_roundw
          case rel=>exact ⟨j+1,L2,pos3,(pj:Int)-1,by omega,rfl,rfl,by go_num,hzb,hLb,R9.out,hHb,hTb,O9.out,K9.out,G9.out,V9,hL28,by omega,by omega⟩
          case measure=>simp [intOf]<;>omega
       ·obtain rfl:j=m:=by omega
        have hTb:T=pos3:=by
         have:=hT8.out;rw [zDI _ _ _ (.inr (by have:=Hn.out;omega))] at this
         simpa using this
        have HTb:=zh hTb;have G9:Hid (wr.heap[w.heap.size]? =some (.cells (ints cs) 3 (0,0))):=zh (by rw [hg8,Hn.out,zIN]);clear hz8 hL8 hr8 hH8 hT8 ho8 hk8 hg8 hV8 hTb;go_wp2;go_ret;exact ⟨_,rfl,G9.out,Nat.le_refl _,by rw [HTb.out];exact R8.out,O8.out⟩
theorem zKE (pt pv pe pb:Value) (w:World):
 CallsD Tryz.prog 269 #[pb,pt,pv,pe] .returning w fun e u' w'=>e=.returned (.tuple #[])∧u'=.returning∧w'=w:=by
 refine callsD_of_wpS Tryz.func269 rfl fun c₀ cs hu=>?_
 apply wpS_seq
 apply wpS_region
 simp [wpOpsS,go_sem,recoverD,hu,Tryz.ntmps269,Exit.thenS]
 apply wpS_seq
 apply wpS_region
 simp [wpOpsS,go_sem,Exit.thenS];refine wpS_cond (t:=false) (by simp [Act.eval,Array.replicate]) ?_;simp only [Bool.false_eq_true,if_false];refine wpS_of_wp (wp_skip ?_)
 cases c₀
 simp_all [bodyPostS,results,Tryz.results269]
theorem zNT (b:Nat) (s:ByteArray) (p:Nat) (cs:List Int) (w:World) (h:RdIs w b s p) (hH:Holds s p (zEG cs)) (hsz:cs.length=4∨cs.length=15∨cs.length=16) (hr:rangeB cs=true) (hs:s.size≤140737488355328):
 Calls Tryz.prog 265 #[.pointer (some ⟨b,0,none⟩),.int .i64 cs.length] w fun r w'=>∃ g,r=.returned (.tuple #[.slice (some ⟨g,0,none⟩) cs.length cs.length,.int .i64 0])∧w'.heap[g]? =some (.cells (ints cs) 3 (0,0))∧w.heap.size≤g∧RdIs w' b s (p+(zEG cs).length)∧Only [b] w w':=by
 have hmf:∀ (fn:Fn) (first cap:Array Value) (w:World),(Instr.makeFunc fn first cap).run Tryz.prog w=.ok (.func fn first cap) w:=fun _ _ _ _=>rfl
 have hszB:zEp (cs.length:Int)=true:=by
  unfold zEp
  rcases hsz with h|h|h<;>rw [h]<;>rfl
 have H:=zh h;have HH:=zh hH;have Hsz:=zh hsz;have hbs:=lt_of_block h;have hb0:w.cell? ⟨b,0,none⟩=some (.string s):=by rw [zA h];rfl
 have hb1:w.cell? ⟨b,1,none⟩=some (.int .i64 p):=by rw [zA h];rfl
 obtain ⟨N,hN⟩:∃ N,N=cs.length:=⟨_,rfl⟩;rw [←hN] at hszB ⊢;have HN:=zh hN;clear h hH hsz hN
 go_enter_defers Tryz.func265,Tryz.ntmps265
 go_wp2_with fail
 refine (zJ8 _ _).mono ?_;rintro r w1 ⟨rfl,rfl⟩;rw [hszB];obtain ⟨wA,hwA⟩:∃ wA,wA=((w.alloc (.cells #[.pointer (some ⟨b,0,none⟩)] 114)).alloc (.cells #[.slice none 0 0] 64)).alloc (.cells #[.int .i64 0] 32):=⟨_,rfl⟩;have oA:Only [] w wA:=by rw [hwA];exact (((Only.refl _ w).alloc _).alloc _).alloc _
 have a0:wA.heap[w.heap.size]? =some (.cells #[.pointer (some ⟨b,0,none⟩)] 114 (0,0)):=by rw [hwA];exact ZE _ (ZE _ (ZA w _))
 have a1:wA.heap[w.heap.size+1]? =some (.cells #[.slice none 0 0] 64 (0,0)):=by
  rw [hwA];have:=ZA (w.alloc (.cells #[.pointer (some ⟨b,0,none⟩)] 114)) (.cells #[.slice none 0 0] 64);exact ZE _ (by simpa using this)
 have a2:wA.heap[w.heap.size+1+1]? =some (.cells #[.int .i64 0] 32 (0,0)):=by
  rw [hwA];have:=ZA ((w.alloc (.cells #[.pointer (some ⟨b,0,none⟩)] 114)).alloc (.cells #[.slice none 0 0] 64)) (.cells #[.int .i64 0] 32)
  simpa using this
 have sA:wA.heap.size=w.heap.size+1+1+1:=by rw [hwA];simp
 rw [←hwA];have RA:=H.out.only oA (by simp);have rb0:wA.cell? ⟨b,0,none⟩=some (.string s):=by rw [zA RA];rfl
 have rb1:wA.cell? ⟨b,1,none⟩=some (.int .i64 p):=by rw [zA RA];rfl
 have rt:wA.cell? ⟨w.heap.size,0,none⟩=some (.pointer (some ⟨b,0,none⟩)):=by rw [zA a0];rfl
 have HRA:=zh RA;have HoA:=zh oA;have A0:=zh a0;have A1:=zh a1;have A2:=zh a2;have SA:=zh sA;have rt2:(wA.alloc (.cells #[.string s,.int .i64 p] 168)).cell? ⟨w.heap.size,0,none⟩=some (.pointer (some ⟨b,0,none⟩)):=((Only.refl [] wA).alloc _).cell rt (by simp);clear hwA oA a0 a1 a2 RA sA hb0 hb1
 go_wp2_with fail
 obtain ⟨wB,hwB⟩:∃ wB,wB=(wA.alloc (.cells #[.string s,.int .i64 p] 168)).alloc (.cells #[.pointer (some ⟨b,0,none⟩)] 360):=⟨_,rfl⟩;have oB:Only [] wA wB:=by rw [hwB];exact ((Only.refl _ wA).alloc _).alloc _
 have kB:LrIs wB (wA.heap.size+1) b:=by
  rw [hwB];have:=ZA (wA.alloc (.cells #[.string s,.int .i64 p] 168)) (.cells #[.pointer (some ⟨b,0,none⟩)] 360)
  simpa [LrIs] using this
 rw [←hwB];have HB:=zh (HRA.out.only oB (by simp));have B0:=zh (oB.heap A0.out (by simp));have B1:=zh (oB.heap A1.out (by simp));have B2:=zh (oB.heap A2.out (by simp));have KB:=zh kB;have OB:=zh (HoA.out.trans oB);have sB:=oB.size;have sA2:=SA.out;clear hwB oB kB rb0 rb1 rt rt2 A0 A1 A2;have hblk:=zLK (wA.heap.size+1) b s p cs wB KB.out HB.out HH.out Hsz.out hr hs;rw [←HN.out] at hblk;refine hblk.mono ?_;clear hblk;rintro r w1 ⟨g,rfl,h1,h2,h3,h4⟩;have n0:w.heap.size∉[b]:=by simp;omega
 have n1:w.heap.size+1∉[b]:=by simp;omega
 have n2:w.heap.size+1+1∉[b]:=by simp;omega
 have C1:=h4.heap B1.out n1;have C2:=h4.heap B2.out n2;have cv:=zA C1 0;have zv:=ZB C1 0;have ce:=zA C2 0;have ze:=ZB C2 0;have H1:=zh h1;have H3:=zh h3;have O1:Hid (Only [b] w w1):=zh ((OB.out.mono (T:=[b]) (by simp)).trans h4);have HC1:=zh C1;have HC2:=zh C2;clear h1 h3 h4 C1 C2;go_wp2;refine leaves_cons (f:=269) (args:=#[.pointer (some ⟨w.heap.size+1+1+1,0,none⟩),.pointer (some ⟨w.heap.size,0,none⟩),.pointer (some ⟨w.heap.size+1,0,none⟩),.pointer (some ⟨w.heap.size+1+1,0,none⟩)]) (by simp) (by simp [go_sem]) ?_;refine (zKE _ _ _ _ _).mono ?_;rintro e u' w'' ⟨rfl,rfl,rfl⟩;have f1:=zC (b:=w.heap.size+1+1) (i:=0) (.int .i64 0) (zB (i:=0) (.slice (some ⟨g,0,none⟩) N N) HC1.out) (by omega);have f2:=zB (i:=0) (.int .i64 0) (zC (b:=w.heap.size+1) (i:=0) (.slice (some ⟨g,0,none⟩) N N) HC2.out (by omega))
 have o4:Only [w.heap.size+1,w.heap.size+1+1] w1 ((w1.setCell ⟨w.heap.size+1,0,none⟩ (.slice (some ⟨g,0,none⟩) N N)).setCell ⟨w.heap.size+1+1,0,none⟩ (.int .i64 0)):=((Only.refl _ w1).setCell (.inl (by simp)) _).setCell (.inl (by simp)) _;generalize (w1.setCell ⟨w.heap.size+1,0,none⟩ (.slice (some ⟨g,0,none⟩) N N)).setCell ⟨w.heap.size+1+1,0,none⟩ (.int .i64 0)=w4 at*;have cv4:w4.cell? ⟨w.heap.size+1,0,none⟩=some (.slice (some ⟨g,0,none⟩) N N):=by rw [zA f1];rfl
 have ce4:w4.cell? ⟨w.heap.size+1+1,0,none⟩=some (.int .i64 0):=by rw [zA f2];rfl
 have sA3:=SA.out;have hg4:=o4.heap H1.out (by simp;omega);have hr4:=H3.out.only o4 (by simp;omega);have ho4:Only [b] w w4:=O1.out.trans' o4 (by simp;omega);simp [Leaves,settle,results,Tryz.results265,go_sem,cv4,ce4];exact ⟨hg4,by omega,hr4,ho4⟩
end Go.Proofs.YtcppbdlmcbjmeaaGreatDoor
