/- Lemmas that the law needs, part 32. -/
import Derived.Test.YtcppbdlmcbjmeaaGreatDoorK02
import Derived.Test.YtcppbdlmcbjmeaaGreatDoorK03
set_option maxHeartbeats 1600000
set_option maxRecDepth 100000
namespace Go.Proofs.YtcppbdlmcbjmeaaGreatDoor
open Go.RowKit
def MakerAt (B:Nat) (w:World) (b:Nat) (xs:List Int):Prop:=
 ∃ sv,w.heap[b]? =some (.cells #[sv] 334 (0,0))∧w.ownsRow B 5 1 sv xs.length (xs.map (Value.int .u8))∧B≤b
theorem MakerAt.step {B b g cap:Nat} {w w1:World} {xs:List Int} {x:Int} {sv:Value} (hb:w.heap[b]? =some (.cells #[sv] 334 (0,0)))
 (hown:w.ownsRow B 5 1 sv xs.length (xs.map (Value.int .u8))) (hB:B≤b)
 (hp:Pushed w B 5 1 sv (xs.length+1) (xs.map (Value.int .u8)++[.int .u8 x]) (.slice (some ⟨g,0,none⟩) (xs.length+1) cap) w1):
 MakerAt B (w1.setCell ⟨b,0,none⟩ (.slice (some ⟨g,0,none⟩) (xs.length+1) cap)) b (xs++[x])∧Below B w (w1.setCell ⟨b,0,none⟩ (.slice (some ⟨g,0,none⟩) (xs.length+1) cap))∧w1.heap[b]? =some (.cells #[sv] 334 (0,0)):=by
 obtain ⟨hown1,hg,-⟩:=hp;have hne:sv.ownBlock≠some b:=by
  intro h;obtain ⟨cur,hc⟩:=zD hown h;rw [hb] at hc;simp at hc
 have hlt:=lt_of_block hb;have hb1:w1.heap[b]? =some (.cells #[sv] 334 (0,0)):=(hg.block b hlt (fun e=>hne e.symm)).trans hb;refine ⟨⟨_,zB _ hb1,?_,hB⟩,?_,hb1⟩
 ·have hne1:(Value.slice (some ⟨g,0,none⟩) (xs.length+1) cap).ownBlock≠some b:=by
   intro h;obtain ⟨cur,hc⟩:=zD hown1 h;rw [hb1] at hc;simp at hc
  exact zS (ownsRow_setCell_other hown1 hne1 _) (by simp) (by simp)
 ·refine Below.setCell (Below.grown (Below.refl _ _) hg (by omega) ?_) hB _;intro k hk;exact (hown.lt k hk).1
theorem MakerAt.first {b g cap:Nat} {w w1:World} {x:Int} (hb:w.heap[b]? =some (.cells #[.slice none 0 0] 334 (0,0)))
 (hp:Pushed w b 5 1 (.slice none 0 0) 1 [.int .u8 x] (.slice (some ⟨g,0,none⟩) 1 cap) w1):
 (w1.setCell ⟨b,0,none⟩ (.slice (some ⟨g,0,none⟩) 1 cap)).ownsRow b 5 1 (.slice (some ⟨g,0,none⟩) 1 cap) [x].length ([x].map (Value.int .u8))∧
 (w1.setCell ⟨b,0,none⟩ (.slice (some ⟨g,0,none⟩) 1 cap)).heap[b]? =some (.cells #[.slice (some ⟨g,0,none⟩) 1 cap] 334 (0,0))∧
 Below b w (w1.setCell ⟨b,0,none⟩ (.slice (some ⟨g,0,none⟩) 1 cap))∧w1.heap[b]? =some (.cells #[.slice none 0 0] 334 (0,0)):=by
 obtain ⟨hown1,hg,-⟩:=hp;have hlt:=lt_of_block hb;have hb1:w1.heap[b]? =some (.cells #[.slice none 0 0] 334 (0,0)):=(hg.block b hlt (fun e=>by simp [Value.ownBlock] at e)).trans hb;have hne1:(Value.slice (some ⟨g,0,none⟩) 1 cap).ownBlock≠some b:=by
  intro h;obtain ⟨cur,hc⟩:=zD hown1 h;rw [hb1] at hc;simp at hc
 have hbl:Below b w w1:=Below.grown (Below.refl _ _) hg (by omega) (fun k hk=>by simp [Value.ownBlock] at hk);exact ⟨ownsRow_setCell_other hown1 hne1 _,zB _ hb1,hbl.setCell (p:=⟨b,0,none⟩) (Nat.le_refl _) _,hb1⟩
theorem zAu (B b:Nat) (x:Int) (xs:List Int) (w:World) (hm:MakerAt B w b xs) (hl:xs.length<1000000) (h0:0≤x) (h1:x≤1):
 Calls Tryz.prog 238 #[.pointer (some ⟨b,0,none⟩),.int .i64 x] w fun e w'=>e=.returned (.tuple #[])∧MakerAt B w' b (xs++[97+x])∧Below B w w':=by
 obtain ⟨sv,hb,hown,hB⟩:=hm;have hlt:=lt_of_block hb;have hc:=cell_of_one hb
 go_enter Tryz.func238,Tryz.ntmps238
 go_wp2_with (at_builtin;refine zf rfl _ _ rfl zL8 B _ _ _ _ hown rfl rfl (by simp) rfl (by omega) (by decide) (by omega) ?_)
 intro g cap w1 hp;obtain ⟨hM,hB',hb1⟩:=MakerAt.step hb hown hB hp;have hc1:=cell_of_one hb1;have hf1:=free_of_one hb1;have H1:=zh hM;have H2:=zh hB';clear hM hB' hp;go_wp2;go_end0;exact ⟨rfl,H1.out,H2.out⟩
theorem zI3 (n:Nat):(List.replicate n (49:Int))++[49]=List.replicate (n+1) 49:=by
 rw [List.replicate_succ']
theorem zJA (B b n l:Nat) (xs:List Int) (w:World) (hm:MakerAt B w b xs) (hl:xs.length<1000000) (hn:n≤1000000) (hl2:l≤1000000):
 Calls Tryz.prog 235 #[.pointer (some ⟨b,0,none⟩),.int .i64 n,.int .i64 l] w fun e w'=>e=.returned (.tuple #[])∧MakerAt B w' b (xs++zAj n l)∧Below B w w':=by
 go_enter Tryz.func235,Tryz.ntmps235
 go_wp2
 go_loopw [7] (fun i wr=>∃ (k:Nat) (ys:List Int),k≤n∧i=.int .i64 k∧Hid (ys=xs++List.replicate k 49)∧ys.length=xs.length+k∧MakerAt B wr b ys∧Below B w wr) (fun i _=>n-(intOf i).toNat)
 case atStart=>exact ⟨0,xs,Nat.zero_le _,rfl,zh (by simp),rfl,hm,Below.refl _ _⟩
 case round=>
  obtain ⟨k,ys,hk,rfl,hys,hlen,hmk,hbel⟩:=hrel;obtain ⟨sv,hb,hown,hB⟩:=hmk;have hc:=cell_of_one hb;have hlt:=lt_of_block hb;have hlen':ys.length≤xs.length+k:=by omega
  have Hlen:=zh hlen;clear hlen
  by_cases hkn:k<n
  ·go_wp2_with (at_builtin;refine zf rfl _ _ rfl zL8 B _ _ _ _ hown rfl rfl (by simp) rfl (by omega) (by decide) (by omega) ?_)
   intro g cap w1 hp;obtain ⟨hM,hB',hb1⟩:=MakerAt.step hb hown hB hp;have hc1:=cell_of_one hb1;have hf1:=free_of_one hb1;have H1:=zh hM;have H2:=zh hB';clear hM hB' hp;go_wp2
   go_roundw
   case rel=>exact ⟨k+1,ys++[49],by omega,by go_num,zh (by rw [hys.out,List.append_assoc,zI3]),by have:=Hlen.out;simp;omega,H1.out,hbel.trans H2.out⟩
   case measure=>simp [intOf]<;>omega
  ·obtain rfl:k=n:=by omega
   by_cases hnl:k<l
   ·go_wp2_with (at_builtin;refine zf rfl _ _ rfl zL8 B _ _ _ _ hown rfl rfl (by simp) rfl (by omega) (by decide) (by omega) ?_)
    intro g cap w1 hp;obtain ⟨hM,hB',hb1⟩:=MakerAt.step hb hown hB hp;have hc1:=cell_of_one hb1;have hf1:=free_of_one hb1;have H1:=zh hM;have H2:=zh hB';clear hM hB' hp;go_wp2;go_end0;refine ⟨rfl,?_,hbel.trans H2.out⟩;have:=H1.out;have e:ys++[48]=xs++zAj k l:=by rw [hys.out];simp [zAj,hnl]
    rw [e] at this;exact this
   ·go_wp2;go_end0;have hm2:MakerAt B _ b ys:=⟨sv,hb,hown,hB⟩;have e:ys=xs++zAj k l:=by rw [hys.out];simp [zAj,hnl]
    rw [e] at hm2;exact ⟨rfl,hm2,hbel⟩
theorem zIE (j p:Nat) (h:p=2^j) (hj:j≤40):wrap64 (2^j)=(p:Int):=by
 have h1:(2:Int)^j=(p:Int):=by rw [h];simp
 have h2:p≤2^40:=by rw [h];exact Nat.pow_le_pow_right (by decide) hj
 rw [h1];exact IntWalk.wrap64_in _ ⟨by omega,by omega⟩
theorem zI9 (B b x k:Nat) (xs:List Int) (w:World) (hm:MakerAt B w b xs) (hl:xs.length<100000) (hx:x<65536) (hk:k≤4):
 Calls Tryz.prog 245 #[.pointer (some ⟨b,0,none⟩),.int .i64 x,.int .i64 k] w fun e w'=>e=.returned (.tuple #[])∧MakerAt B w' b (xs++zBo 18 x k)∧Below B w w':=by
 go_enter Tryz.func245,Tryz.ntmps245
 go_wp2
 go_loopw [1,2] (fun p q wr=>∃ (f y j:Nat) (ys:List Int),p=.int .i64 y∧q=.int .i64 j∧Hid (ys++zBo f y j=xs++zBo 18 x k)∧Hid (y+2^j<2^(j+f))∧ys.length+f≤xs.length+18∧j+f≤k+18∧y≤x∧MakerAt B wr b ys∧Below B w wr) (fun p _ _=>(intOf p).toNat)
 case atStart=>
  refine ⟨18,x,k,xs,rfl,rfl,zh rfl,zh ?_,by omega,by omega,by omega,hm,Below.refl _ _⟩;have h1:2^(k+18)=2^k*262144:=by rw [Nat.pow_add]
  have h2:1≤2^k:=Nat.one_le_two_pow;rw [h1];omega
 case round=>
  obtain ⟨f,y,j,ys,rfl,rfl,hys,had,hlen,hjf,hyx,hmk,hbel⟩:=hrel;obtain ⟨p,hpj⟩:∃ p:Nat,p=2^j:=⟨_,rfl⟩;have hw:=zIE j p hpj (by omega);have hp1:1≤p:=by rw [hpj];exact Nat.one_le_two_pow
  have hp2:p≤4194304:=by
   have:p≤2^22:=by rw [hpj];exact Nat.pow_le_pow_right (by decide) (by omega)
   omega
  have Hp:=zh hpj;clear hpj;have hf0:1≤f:=by
   rcases Nat.eq_zero_or_pos f with h|h
   ·subst h;have:=had.out;simp at this;have:=Nat.one_le_two_pow (n:=j);omega
   ·exact h
  obtain ⟨f,rfl⟩:∃ f',f=f'+1:=⟨f-1,by omega⟩
  by_cases hc:p≤y
  ·go_wp2_with fail
   refine (zAu B b 1 ys _ hmk (by omega) (by omega) (by omega)).mono ?_;rintro e w1 ⟨rfl,hm1,hb1⟩;have H1:=zh hm1;have H2:=zh hb1;clear hm1 hb1;go_wp2
   go_roundw
   case rel=>
    refine ⟨f,y-p,j+1,ys++[98],by go_num,by go_num,zh ?_,zh ?_,by simp;omega,by omega,by omega,H1.out,hbel.trans H2.out⟩
    ·rw [←hys.out,List.append_assoc]
     congr 1
     rw [zBo,if_pos (by rw [←Hp.out];exact hc),←Hp.out]
     rfl
    ·have h1:=had.out;rw [show j+1+f=j+(f+1) from by omega,Nat.pow_succ 2 j];rw [←Hp.out] at h1 ⊢;omega
   case measure=>simp [intOf]<;>omega
  ·have htail:zBo (f+1) y j=97::zJV y j:=by rw [zBo,if_neg (by rw [←Hp.out];exact hc)]
   have Ht:=zh htail;clear htail
   go_wp2_with fail
   refine (zAu B b 0 ys _ hmk (by omega) (by omega) (by omega)).mono ?_;rintro e w1 ⟨rfl,hm1,hb1⟩;have H2:=zh hb1;clear hb1;go_wp2;obtain ⟨wo,hwo⟩:∃ wo:World,wo=wr:=⟨_,rfl⟩;subst hwo
   go_loopw [2] (fun q wr=>∃ (i:Nat) (zs:List Int),q=.int .i64 ((i:Int)-1)∧i≤j∧Hid (zs++zJV y i=xs++zBo 18 x k)∧zs.length+i≤ys.length+1+j∧MakerAt B wr b zs∧Below B wo wr) (fun q _=>(intOf q+1).toNat)
   case atStart=>exact ⟨j,ys++[97],by go_num,Nat.le_refl _,zh (by rw [←hys.out,Ht.out];simp),by simp,hm1,H2.out⟩
   case round=>
    obtain ⟨i,zs,rfl,hij,hzs,hlz,hmk2,hbel2⟩:=hrel
    by_cases hi:1≤i
    ·obtain ⟨i,rfl⟩:∃ i',i=i'+1:=⟨i-1,by omega⟩;have hbit:(0:Int)≤(y:Int)/2^i%2∧(y:Int)/2^i%2≤1:=by omega
     have hcast:(y:Int)/2^i%2=((y/2^i%2:Nat):Int):=by simp
     have Hc:=zh hcast;clear hcast
     go_wp2_with fail
     refine (zAu B b _ zs _ hmk2 (by omega) hbit.1 hbit.2).mono ?_;rintro e w2 ⟨rfl,hm2,hb2⟩;have H3:=zh hb2;clear hb2;go_wp2
     go_roundw
     case rel=>
      refine ⟨i,_,by go_num,by omega,zh ?_,?_,hm2,hbel2.trans H3.out⟩
      ·rw [←hzs.out,List.append_assoc,Hc.out];rfl
      ·simp only [List.length_append,List.length_singleton];omega
     case measure=>simp [intOf]<;>omega
    ·obtain rfl:i=0:=by omega
     go_wp2;go_end0;have e:zs=xs++zBo 18 x k:=by rw [←hzs.out];simp [zJV]
     rw [e] at hmk2;exact ⟨rfl,hmk2,hbel.trans hbel2⟩
theorem zEE (B b:Nat) (x k:Int) (xs:List Int) (w:World) (hm:MakerAt B w b xs) (hl:xs.length<100000) (h0:0≤x) (hx:x<65536) (hk0:0≤k) (hk:k≤4):
 Calls Tryz.prog 245 #[.pointer (some ⟨b,0,none⟩),.int .i64 x,.int .i64 k] w fun e w'=>e=.returned (.tuple #[])∧MakerAt B w' b (xs++zBo 18 x.toNat k.toNat)∧Below B w w':=by
 obtain ⟨x,rfl⟩:=Int.eq_ofNat_of_zero_le h0;obtain ⟨k,rfl⟩:=Int.eq_ofNat_of_zero_le hk0;exact zI9 B b x k xs w hm hl (by omega) (by omega)
theorem zBU (B b:Nat) (n l:Int) (xs:List Int) (w:World) (hm:MakerAt B w b xs) (hl:xs.length<1000000) (hn0:0≤n) (hn:n≤1000000) (hl0:0≤l) (hl2:l≤1000000):
 Calls Tryz.prog 235 #[.pointer (some ⟨b,0,none⟩),.int .i64 n,.int .i64 l] w fun e w'=>e=.returned (.tuple #[])∧MakerAt B w' b (xs++zAj n.toNat l.toNat)∧Below B w w':=by
 obtain ⟨n,rfl⟩:=Int.eq_ofNat_of_zero_le hn0;obtain ⟨l,rfl⟩:=Int.eq_ofNat_of_zero_le hl0;exact zJA B b n l xs w hm hl (by omega) (by omega)
theorem zB5 (B b:Nat) (v own k:Int) (xs:List Int) (w:World) (hm:MakerAt B w b xs) (hl:xs.length<1000) (hv0:0≤v) (hx:v<65536) (ho0:0≤own) (ho:own≤100) (hk0:0≤k) (hk:k≤4):
 Calls Tryz.prog 236 #[.pointer (some ⟨b,0,none⟩),.int .i64 v,.int .i64 own,.int .i64 k] w fun e w'=>e=.returned (.tuple #[])∧MakerAt B w' b (xs++Zk v.toNat own.toNat k.toNat)∧Below B w w':=by
 by_cases h:own≤v
 ·have e1:xs++zAj own.toNat own.toNat++zBo 18 (v-own).toNat k.toNat=xs++Zk v.toNat own.toNat k.toNat:=by
   unfold Zk;rw [if_pos (by omega),Nat.min_eq_right (by omega),List.append_assoc,show (v-own).toNat=v.toNat-own.toNat by omega]
  have H:=zh e1;clear e1
  rcases Int.lt_or_eq_of_le h with h'|h'
  ·go_enter Tryz.func236,Tryz.ntmps236
   go_wp2_with fail
   refine (zBU B b own own xs _ hm (by omega) (by omega) (by omega) (by omega) (by omega)).mono ?_;rintro e w1 ⟨rfl,hm1,hb1⟩;have Hb:=zh hb1;clear hb1
   go_wp2_with fail
   refine (zEE B b (v-own) k _ _ hm1 (by simp [zAj];omega) (by omega) (by omega) hk0 hk).mono ?_;rintro e w2 ⟨rfl,hm2,hb2⟩;have Hb2:=zh hb2;clear hb2;go_wp2;go_end0;rw [H.out] at hm2;exact ⟨rfl,hm2,Hb.out.trans Hb2.out⟩
  ·subst h'
   go_enter Tryz.func236,Tryz.ntmps236
   go_wp2_with fail
   refine (zBU B b own own xs _ hm (by omega) (by omega) (by omega) (by omega) (by omega)).mono ?_;rintro e w1 ⟨rfl,hm1,hb1⟩;have Hb:=zh hb1;clear hb1
   go_wp2_with fail
   refine (zEE B b 0 k _ _ hm1 (by simp [zAj];omega) (by omega) (by omega) hk0 hk).mono ?_;rintro e w2 ⟨rfl,hm2,hb2⟩;have Hb2:=zh hb2;clear hb2;go_wp2;go_end0;have e2:=H.out;rw [show (own-own).toNat=Int.toNat 0 by simp] at e2;rw [e2] at hm2;exact ⟨rfl,hm2,Hb.out.trans Hb2.out⟩
 ·have e1:xs++zAj v.toNat own.toNat=xs++Zk v.toNat own.toNat k.toNat:=by
   unfold Zk;rw [if_neg (by omega),Nat.min_eq_left (by omega)];simp
  have H:=zh e1;clear e1
  go_enter Tryz.func236,Tryz.ntmps236
  go_wp2_with fail
  refine (zBU B b v own xs _ hm (by omega) (by omega) (by omega) (by omega) (by omega)).mono ?_;rintro e w1 ⟨rfl,hm1,hb1⟩;have Hb:=zh hb1;clear hb1
  go_wp2_with fail
  go_end0
  rw [H.out] at hm1;exact ⟨rfl,hm1,Hb.out⟩
def wrs (cs:Array Value) (l:List (Nat×Value)):Array Value:=l.foldl (fun c p=>c.setIfInBounds p.1 p.2) cs
theorem zKp (cs:Array Value) (l:List (Nat×Value)) (k:Nat) (p:Nat×Value) (h:l[k]? =some p):wrs cs (l.take (k+1))=(wrs cs (l.take k)).setIfInBounds p.1 p.2:=by
 obtain ⟨hk,rfl⟩:=List.getElem?_eq_some_iff.1 h;rw [wrs,List.take_succ_eq_append_getElem hk,List.foldl_append]
 rfl
theorem zET (cs:Array Value) (l:List (Nat×Value)):(wrs cs l).size=cs.size:=by
 unfold wrs
 induction l generalizing cs with
 |nil=>rfl
 |cons p l ih=>rw [List.foldl_cons,ih];simp
def zBt:List Int:=[0,2,14,15,16,18,19]
def zBB:List Int:=[1,3,4,5,6,7,8,11,12]
def zAl:List Int:=[9,10,13]
def kz (x:Value):Array Value:=#[.int .u32 0,.int .i32 1,x,.int .i64 0,.int .i64 0,.int .i64 0,.int .i64 0,.int .i64 0,.int .i64 0,.int .i64 0,.int .i64 0,.int .i64 0,.int .i64 0,.int .i64 0,.int .i64 0,.int .i64 0,.int .i64 0,.int .i64 0,.int .i64 0,.int .i64 0,.int .i64 0,.int .i64 0,.int .i64 0]
def kws (l:List Int) (v:Int):List (Nat×Value):=l.map fun e=>(3+e.toNat,.int .i64 v)
def k1 (x:Value) (k:Nat):Array Value:=wrs (kz x) ((kws zBt 1).take k)
def k2 (x:Value) (k:Nat):Array Value:=wrs (k1 x 7) ((kws zBB 2).take k)
def k3 (x:Value) (k:Nat):Array Value:=wrs (k2 x 9) ((kws zAl 3).take k)
def zM9 (x:Value):Array Value:=(k3 x 3).setIfInBounds 20 (.int .i64 4)
theorem zKG (x:Value):zM9 x=#[.int .u32 0,.int .i32 1,x,.int .i64 1,.int .i64 2,.int .i64 1,.int .i64 2,.int .i64 2,.int .i64 2,.int .i64 2,.int .i64 2,.int .i64 2,.int .i64 3,.int .i64 3,.int .i64 2,.int .i64 2,.int .i64 3,.int .i64 1,.int .i64 1,.int .i64 1,.int .i64 4,.int .i64 1,.int .i64 1]:=by kernel_rfl
theorem zKq (cs:Array Value) (l:List (Nat×Value)) (k i:Nat) (h:i<cs.size):∃ v,(wrs cs (l.take k))[i]? =some v:=by
 have:i<(wrs cs (l.take k)).size:=by rw [zET];exact h
 exact ⟨_,Array.getElem?_eq_getElem this⟩
structure KR (kb pb sb:Nat) (cs:Array Value) (L:List Int) (w wr:World):Prop where
 hk:wr.heap[kb]? =some (.cells cs 331 (0,0))
 hp:wr.heap[pb]? =some (.cells #[.pointer (some ⟨kb,0,none⟩)] 328 (0,0))
 hs:wr.heap[sb]? =some (.cells (L.map (Value.int .i64)).toArray 3 (0,0))
 only:Only [kb] w wr
theorem KR.step {kb pb sb:Nat} {cs:Array Value} {L M:List Int} {v:Int} {w wr:World} {k:Nat} (h:KR kb pb sb (wrs cs ((kws M v).take k)) L w wr) (hk:k<M.length):
 KR kb pb sb (wrs cs ((kws M v).take (k+1))) L w (wr.setCell ⟨kb,3+(M.getD k 0).toNat,none⟩ (.int .i64 v)):=by
 have h1:pb≠kb:=by intro e;subst e;have:=h.hk;rw [h.hp] at this;simp at this
 have h2:sb≠kb:=by intro e;subst e;have:=h.hk;rw [h.hs] at this;simp at this
 refine ⟨?_,zC _ h.hp h1,zC _ h.hs h2,h.only.setCell (.inl (by simp)) _⟩;have e:(kws M v)[k]? =some (3+(M.getD k 0).toNat,.int .i64 v):=by simp [kws,List.getElem?_eq_getElem hk]
 rw [zKp _ _ _ _ e];exact zB _ h.hk
theorem KR.start {kb pb:Nat} {cs:Array Value} {w wr:World} (L:List Int) (hk:wr.heap[kb]? =some (.cells cs 331 (0,0)))
 (hp:wr.heap[pb]? =some (.cells #[.pointer (some ⟨kb,0,none⟩)] 328 (0,0))) (ho:Only [kb] w wr) (v:Int) (M:List Int):
 KR kb pb wr.heap.size (wrs cs ((kws M v).take 0)) L w (wr.alloc (.cells (L.map (Value.int .i64)).toArray 3)):=
 ⟨ZE _ hk,ZE _ hp,ZA _ _,ho.alloc _⟩
theorem KR.facts {kb pb sb:Nat} {cs:Array Value} {L M:List Int} {v:Int} {w wr:World} {k:Nat} (h:KR kb pb sb (wrs cs ((kws M v).take k)) L w wr) (hL:L=M) (hk:k<M.length) (hc:cs.size=23) (hb:∀ i,i<M.length→0≤M.getD i 0∧M.getD i 0<20):
 ∃ e:Int,Hid (e=M.getD k 0)∧0≤e∧e<20∧wr.cell? ⟨sb,k,none⟩=some (.int .i64 e)∧wr.cell? ⟨pb,0,none⟩=some (.pointer (some ⟨kb,0,none⟩))∧
  (∃ v0,wr.cell? ⟨kb,3+e.toNat,none⟩=some v0)∧wr.frozen? ⟨kb,3+e.toNat,none⟩=false:=by
 subst hL;obtain ⟨h0,h1⟩:=hb k hk;refine ⟨L.getD k 0,rfl,h0,h1,?_,cell_of_one h.hp,?_,ZB h.hk _⟩
 ·rw [zA h.hs];simp [List.getElem?_eq_getElem hk]
 ·rw [zA h.hk];exact zKq _ _ _ _ (by omega)
theorem zKF (x:Value):(kz x).size=23:=rfl
theorem zKI (x:Value) (k:Nat):(k1 x k).size=23:=by rw [k1,zET,zKF]
theorem zKH (x:Value) (k:Nat):(k2 x k).size=23:=by rw [k2,zET,zKI]
theorem zMo (x:Value) (k:Nat):(k3 x k).size=23:=by rw [k3,zET,zKH]
theorem zJC (kb pb:Nat) (x:Value) (w:World) (hk:w.heap[kb]? =some (.cells (kz x) 331 (0,0))) (hp:w.heap[pb]? =some (.cells #[.pointer (some ⟨kb,0,none⟩)] 328 (0,0))):
 Calls Tryz.prog 244 #[.pointer (some ⟨pb,0,none⟩)] w fun e w'=>e=.returned (.tuple #[])∧w'.heap[kb]? =some (.cells (zM9 x) 331 (0,0))∧Only [kb] w w':=by
 have hne:kb≠pb:=by rintro rfl;rw [hk] at hp;simp [kz] at hp
 have h0:=KR.start (w:=w) zBt hk hp (Only.refl _ _) 1 zBt;have H0:=zh h0;clear h0 hk hp
 go_enter Tryz.func244,Tryz.ntmps244
 go_wp2
 go_loopw [9] (fun i wr=>∃ k:Nat,k≤7∧i=.int .i64 k∧KR kb pb w.heap.size (k1 x k) zBt w wr) (fun i _=>7-(intOf i).toNat)
 case atStart=>exact ⟨0,by omega,rfl,H0.out⟩
 case round=>
  obtain ⟨k,hk7,rfl,hr⟩:=hrel
  by_cases hk:k<7
  ·obtain ⟨e,he,he0,he1,c1,c2,⟨v0,c3⟩,z⟩:=KR.facts (cs:=kz x) (M:=zBt) (v:=1) (k:=k) hr rfl hk (zKF x) (by decide);have hn:=KR.step (cs:=kz x) (M:=zBt) (v:=1) (k:=k) hr hk;rw [←he.out] at hn;have H:=zh hn;clear hn hr;go_wp2
   go_roundw
   case rel=>exact ⟨k+1,by omega,by go_num,H.out⟩
   case measure=>simp [intOf]<;>omega
  ·obtain rfl:k=7:=by omega
   have h0:=KR.start (w:=w) zBB hr.hk hr.hp hr.only 2 zBB;have H0:=zh h0;clear h0 hr;obtain ⟨wo,hwo⟩:∃ wo:World,wo=wr:=⟨_,rfl⟩;subst hwo;go_wp2
   go_loopw [21] (fun i wr=>∃ k:Nat,k≤9∧i=.int .i64 k∧KR kb pb wo.heap.size (k2 x k) zBB w wr) (fun i _=>9-(intOf i).toNat)
   case atStart=>exact ⟨0,by omega,rfl,H0.out⟩
   case round=>
    obtain ⟨k,hk7,rfl,hr⟩:=hrel
    by_cases hk:k<9
    ·obtain ⟨e,he,he0,he1,c1,c2,⟨v0,c3⟩,z⟩:=KR.facts (cs:=k1 x 7) (M:=zBB) (v:=2) (k:=k) hr rfl hk (zKI x 7) (by decide);have hn:=KR.step (cs:=k1 x 7) (M:=zBB) (v:=2) (k:=k) hr hk;rw [←he.out] at hn;have H:=zh hn;clear hn hr;go_wp2
     go_roundw
     case rel=>exact ⟨k+1,by omega,by go_num,H.out⟩
     case measure=>simp [intOf]<;>omega
    ·obtain rfl:k=9:=by omega
     have h0:=KR.start (w:=w) zAl hr.hk hr.hp hr.only 3 zAl;have H0:=zh h0;clear h0 hr;obtain ⟨wq,hwq⟩:∃ wq:World,wq=wr:=⟨_,rfl⟩;subst hwq;go_wp2
     go_loopw [33] (fun i wr=>∃ k:Nat,k≤3∧i=.int .i64 k∧KR kb pb wq.heap.size (k3 x k) zAl w wr) (fun i _=>3-(intOf i).toNat)
     case atStart=>exact ⟨0,by omega,rfl,H0.out⟩
     case round=>
      obtain ⟨k,hk7,rfl,hr⟩:=hrel
      by_cases hk:k<3
      ·obtain ⟨e,he,he0,he1,c1,c2,⟨v0,c3⟩,z⟩:=KR.facts (cs:=k2 x 9) (M:=zAl) (v:=3) (k:=k) hr rfl hk (zKH x 9) (by decide);have hn:=KR.step (cs:=k2 x 9) (M:=zAl) (v:=3) (k:=k) hr hk;rw [←he.out] at hn;have H:=zh hn;clear hn hr;go_wp2
       go_roundw
       case rel=>exact ⟨k+1,by omega,by go_num,H.out⟩
       case measure=>simp [intOf]<;>omega
      ·obtain rfl:k=3:=by omega
       have c2:=cell_of_one hr.hp;have c3:∃ v0,wr.cell? ⟨kb,20,none⟩=some v0:=by rw [zA hr.hk];exact ⟨_,Array.getElem?_eq_getElem (by rw [zMo];decide)⟩
       obtain ⟨v0,c3⟩:=c3;have z:=ZB hr.hk 20;have hn:(wr.setCell ⟨kb,20,none⟩ (.int .i64 4)).heap[kb]? =some (.cells (zM9 x) 331 (0,0)):=zB _ hr.hk;have H:=zh hn;have H2:=zh (hr.only.setCell (p:=⟨kb,20,none⟩) (.inl (by simp)) (.int .i64 4));clear hn hr;go_wp2;go_end0;exact ⟨rfl,H.out,H2.out⟩
def kNew:Array Value:=#[.int .u32 0,.int .i32 0,.int .u32 0,.int .i64 0,.int .i64 0,.int .i64 0,.int .i64 0,.int .i64 0,.int .i64 0,.int .i64 0,.int .i64 0,.int .i64 0,.int .i64 0,.int .i64 0,.int .i64 0,.int .i64 0,.int .i64 0,.int .i64 0,.int .i64 0,.int .i64 0,.int .i64 0,.int .i64 0,.int .i64 0]
theorem zLN:kNew.setIfInBounds 1 (.int .i32 1)=kz (.int .u32 0):=by kernel_rfl
def zMn:Array Value:=((zM9 (.int .u32 0)).setIfInBounds 0 (.int .u32 1)).setIfInBounds 1 (.int .i32 0)
theorem zLO:∀ i,i<20→zMn[3+i]? =some (.int .i64 (kindTab.getD i 0)):=by
 have e:zMn=#[.int .u32 1,.int .i32 0,.int .u32 0,.int .i64 1,.int .i64 2,.int .i64 1,.int .i64 2,.int .i64 2,.int .i64 2,.int .i64 2,.int .i64 2,.int .i64 2,.int .i64 3,.int .i64 3,.int .i64 2,.int .i64 2,.int .i64 3,.int .i64 1,.int .i64 1,.int .i64 1,.int .i64 4,.int .i64 1,.int .i64 1]:=by kernel_rfl
 intro i hi;rw [e]
 match i,hi with
 |0,_=>rfl|1,_=>rfl|2,_=>rfl|3,_=>rfl|4,_=>rfl|5,_=>rfl|6,_=>rfl|7,_=>rfl|8,_=>rfl|9,_=>rfl
 |10,_=>rfl|11,_=>rfl|12,_=>rfl|13,_=>rfl|14,_=>rfl|15,_=>rfl|16,_=>rfl|17,_=>rfl|18,_=>rfl|19,_=>rfl
 |n+20,h=>omega
theorem Zt (kb:Nat) (el:Int) (w:World) (hk:w.heap[kb]? =some (.cells kNew 331 (0,0))):
 Calls Tryz.prog 233 #[.pointer (some ⟨kb,0,none⟩),.int .i64 el] w fun e w'=>e=.returned (.int .i64 (zK el))∧Only [kb] w w':=by
 have hlt:=lt_of_block hk;have hmf:∀ (fn:Fn) (first cap:Array Value) (w:World),(Instr.makeFunc fn first cap).run Tryz.prog w=.ok (.func fn first cap) w:=fun _ _ _ _=>rfl
 have hent:=fun w=>ZZ (args:=#[.pointer (some ⟨w.heap.size,0,none⟩)]) Tryz.func244 (by kernel_rfl) (by kernel_rfl) w
 have hk1:=ZE (.cells #[.pointer (some ⟨kb,0,none⟩)] 328) hk;have hp1:=ZA w (.cells #[.pointer (some ⟨kb,0,none⟩)] 328);have hk2:=zB (i:=1) (.int .i32 1) hk1;rw [zLN] at hk2;have hp2:=zC (i:=1) (b:=kb) (.int .i32 1) hp1 (by omega);have hdo:=zJz kb 0 244 #[.pointer (some ⟨w.heap.size,0,none⟩)] (fun w=>ZZ Tryz.func244 (by kernel_rfl) (by kernel_rfl) _ w)
  (w.alloc (.cells #[.pointer (some ⟨kb,0,none⟩)] 328)) (fun w1=>w1.heap[kb]? =some (.cells (zM9 (.int .u32 0)) 331 (0,0))∧w1.heap[w.heap.size]? =some (.cells #[.pointer (some ⟨kb,0,none⟩)] 328 (0,0))∧Only [kb] w w1)
  (by rw [zA hk1];rfl) (by rw [zA hk1];rfl) (ZB hk1 _)
  ((zJC kb w.heap.size (.int .u32 0) _ hk2 hp2).mono fun e w' ⟨he,h1,h2⟩=>⟨he,⟨by rw [zA h1,zKG];rfl,by rw [zA h1,zKG];rfl,ZB h1 _,ZB h1 _⟩,h1,h2.heap hp2 (by simp;omega),
    (((Only.refl _ _).alloc _).setCell (.inl (by simp)) _).trans h2⟩)
 have Hdo:=zh hdo;clear hdo hk1 hp1 hk2 hp2
 by_cases hr:el<0∨20≤el
 ·have he:zK el=0:=by
   unfold zK
   split
   ·rfl
   ·rename_i h;have:kindTab[el.toNat]? =none:=List.getElem?_eq_none (by simp [kindTab];omega);simp [List.getD,this]
  have He:=zh he;clear he
  rcases hr with hr|hr
  all_goals
   go_enter Tryz.func233,Tryz.ntmps233
   go_wp2_with fail
   refine Hdo.out.mono ?_;rintro e w1 ⟨rfl,w0,⟨h1,h2,h3⟩,rfl⟩;have Ho:=zh (((h3.drew).setCell (p:=⟨kb,0,none⟩) (.inl (by simp)) (.int .u32 1)).setCell (p:=⟨kb,1,none⟩) (.inl (by simp)) (.int .i32 0));clear h1 h2 h3;go_wp2;go_ret;exact ⟨zq (by rw [He.out]),Ho.out⟩
 ·obtain ⟨n,rfl⟩:=Int.eq_ofNat_of_zero_le (show 0≤el by omega);have hn:n<20:=by omega
  have he:zK n=kindTab.getD n 0:=by unfold zK;rw [if_neg (by omega)];rfl
  have He:=zh he;clear he hr
  go_enter Tryz.func233,Tryz.ntmps233
  go_wp2_with fail
  refine Hdo.out.mono ?_;rintro e w1 ⟨rfl,w0,⟨h1,h2,h3⟩,rfl⟩;have Ho:=zh (((h3.drew).setCell (p:=⟨kb,0,none⟩) (.inl (by simp)) (.int .u32 1)).setCell (p:=⟨kb,1,none⟩) (.inl (by simp)) (.int .i32 0));have g1:=zB (i:=1) (.int .i32 0) (zB (i:=0) (.int .u32 1) (w:=w0.drew) h1);have g2:=zC (i:=1) (b:=kb) (.int .i32 0) (zC (i:=0) (b:=kb) (.int .u32 1) (w:=w0.drew) h2 (by omega)) (by omega);have c1:=cell_of_one g2;have c2:=zA g1 (3+n);rw [show ((zM9 (.int .u32 0)).setIfInBounds 0 (.int .u32 1)).setIfInBounds 1 (.int .i32 0)=zMn from rfl,zLO n hn] at c2;generalize ((w0.drew.setCell ⟨kb,0,none⟩ (.int .u32 1)).setCell ⟨kb,1,none⟩ (.int .i32 0))=wz at*;clear h1 h2 h3 g1 g2;go_wp2;go_ret;exact ⟨zq (by rw [He.out];simp [List.getD]),Ho.out⟩
theorem zCC (k v m:Int) (w:World):
 Calls Tryz.prog 234 #[.int .i64 k,.int .i64 v,.int .i64 m] w fun e w'=>e=.returned (.bool (zy k v m))∧w=w':=by
 by_cases hk:k=1∨k=2∨k=3∨k=4
 ·rcases hk with rfl|rfl|rfl|rfl
  all_goals
   go_enter Tryz.func234,Tryz.ntmps234
   go_wp2
  all_goals
   go_ret
   refine ⟨zB2 ?_,rfl⟩;rw [Bool.eq_iff_iff];simp [zy]
   try omega
 ·have h1:(k==1)=false:=by simp;omega
  have h2:(k==2)=false:=by simp;omega
  have h3:(k==3)=false:=by simp;omega
  have h4:(k==4)=false:=by simp;omega
  have e:zy k v m=false:=by
   unfold zy;rw [if_neg (by omega),if_neg (by omega),if_neg (by omega),if_neg (by omega)]
  have He:=zh e;clear e
  go_enter Tryz.func234,Tryz.ntmps234
  go_wp2;go_ret;exact ⟨zB2 He.out.symm,rfl⟩
theorem zFS (x:Int) (w:World) (h1:-100000≤x) (h2:x≤100000):
 Calls Tryz.prog 237 #[.int .i64 x] w fun e w'=>e=.returned (.int .i64 x.natAbs)∧w=w':=by
 go_enter Tryz.func237,Tryz.ntmps237
 go_wp2
 all_goals
  go_ret
  exact ⟨zq (by omega),rfl⟩
theorem MakerAt.new {B:Nat} {w:World} (h:B≤w.heap.size):MakerAt B (w.alloc (.cells #[.slice none 0 0] 334)) w.heap.size []:=
 ⟨_,ZA _ _,World.ownsRow_nil _ _ _ _,h⟩
theorem zM2 (el v most:Int) (w:World) (h:zy (zK el) v most=false):
 Calls Tryz.prog 228 #[.int .i64 el,.int .i64 v,.int .i64 most] w fun e w'=>e=.returned (.tuple #[.string (strOfNums []),.int .i64 600])∧Only [] w w':=by
 have H:=zh h;clear h
 go_enter Tryz.func228,Tryz.ntmps228
 go_wp2_with fail
 refine (Zt w.heap.size el _ (ZA _ _)).mono ?_;rintro e w1 ⟨rfl,h1⟩;have H1:=zh (((Only.refl [] w).alloc (.cells kNew 331)).trans' h1 (by simp));clear h1
 go_wp2_with fail
 refine (zCC (zK el) v most _).mono ?_;rintro e w2 ⟨rfl,rfl⟩;rw [H.out];go_wp2;go_ret2;exact ⟨rfl,H1.out⟩
theorem zJP (el v most:Int) (w:World) (h:zy (zK el) v most=true) (hk:zK el=2):
 Calls Tryz.prog 228 #[.int .i64 el,.int .i64 v,.int .i64 most] w fun e w'=>e=.returned (.tuple #[.string (strOfNums (zG2 2 v most)),.int .i64 0])∧Only [] w w':=by
 have hb:1≤most∧most≤63∧0≤v∧v≤most:=by rw [hk] at h;simpa [zy] using h
 obtain ⟨b1,b2,b3,b4⟩:=hb;have H:=zh h;have Hk:=zh hk;clear h hk
 go_enter Tryz.func228,Tryz.ntmps228
 go_wp2_with fail
 refine (Zt w.heap.size el _ (ZA _ _)).mono ?_;rintro e w1 ⟨rfl,h1⟩;have H1:=zh (((Only.refl [] w).alloc (.cells kNew 331)).trans' h1 (by simp));clear h1
 go_wp2_with fail
 refine (zCC (zK el) v most _).mono ?_;rintro e w2 ⟨rfl,rfl⟩;rw [H.out,Hk.out]
 go_wp2_with fail
 refine (zBU w1.heap.size w1.heap.size v most [] _ (MakerAt.new (Nat.le_refl _)) (by simp) (by omega) (by omega) (by omega) (by omega)).mono ?_;rintro e w2 ⟨rfl,⟨sv,hb,hown,hB⟩,hbel⟩;have hc:=cell_of_one hb;have ht:=zBS Tryz.underlying49 Tryz.underlying5 Tryz.underlying9 hown;have H2:=zh (H1.out.trans (((Only.refl [] w1).alloc _).trans_below hbel (Nat.le_refl _)));clear hb hown hbel;go_wp2;go_ret2;exact ⟨rfl,H2.out⟩
theorem zKm (el v most:Int) (w:World) (h:zy (zK el) v most=true) (hk:zK el=1):
 Calls Tryz.prog 228 #[.int .i64 el,.int .i64 v,.int .i64 most] w fun e w'=>e=.returned (.tuple #[.string (strOfNums (zG2 1 v most)),.int .i64 0])∧Only [] w w':=by
 have hb:v=0∨v=1:=by rw [hk] at h;simpa [zy] using h
 have H:=zh h;have Hk:=zh hk;have hv:0≤v∧v≤1:=by omega
 obtain ⟨v0,v1⟩:=hv;clear hb;clear h hk
 go_enter Tryz.func228,Tryz.ntmps228
 go_wp2_with fail
 refine (Zt w.heap.size el _ (ZA _ _)).mono ?_;rintro e w1 ⟨rfl,h1⟩;have H1:=zh (((Only.refl [] w).alloc (.cells kNew 331)).trans' h1 (by simp));clear h1
 go_wp2_with fail
 refine (zCC (zK el) v most _).mono ?_;rintro e w2 ⟨rfl,rfl⟩;rw [H.out,Hk.out];have hown0:=World.ownsRow_nil (w1.alloc (.cells #[.slice none 0 0] 334)) w1.heap.size 5 1;have hb0:=ZA w1 (.cells #[.slice none 0 0] 334)
 go_wp2_with (at_builtin;refine zf rfl _ _ rfl zL8 w1.heap.size _ 0 [] _ hown0 rfl rfl (by simp) rfl (by simp) (by decide) (by omega) ?_)
 intro g cap w2 hp;obtain ⟨hown,hb,hbel,hb1⟩:=MakerAt.first hb0 hp;have hc1:=cell_of_one hb1;have hf1:=free_of_one hb1;have hc:=cell_of_one hb;have ht:=zBS Tryz.underlying49 Tryz.underlying5 Tryz.underlying9 hown;have H2:=zh (H1.out.trans (((Only.refl [] w1).alloc _).trans_below hbel (Nat.le_refl _)));clear hb hown hbel hp hb0 hown0 hb1;go_wp2;go_ret2;exact ⟨rfl,H2.out⟩
theorem zJQ (el v most:Int) (w:World) (h:zy (zK el) v most=true) (hk:zK el=4):
 Calls Tryz.prog 228 #[.int .i64 el,.int .i64 v,.int .i64 most] w fun e w'=>e=.returned (.tuple #[.string (strOfNums (zG2 4 v most)),.int .i64 0])∧Only [] w w':=by
 have hb:0≤v∧v≤65535:=by rw [hk] at h;simpa [zy] using h
 have H:=zh h;have Hk:=zh hk;obtain ⟨v0,v1⟩:=hb;clear h hk
 go_enter Tryz.func228,Tryz.ntmps228
 go_wp2_with fail
 refine (Zt w.heap.size el _ (ZA _ _)).mono ?_;rintro e w1 ⟨rfl,h1⟩;have H1:=zh (((Only.refl [] w).alloc (.cells kNew 331)).trans' h1 (by simp));clear h1
 go_wp2_with fail
 refine (zCC (zK el) v most _).mono ?_;rintro e w2 ⟨rfl,rfl⟩;rw [H.out,Hk.out]
 go_wp2_with fail
 refine (zB5 w1.heap.size w1.heap.size v 14 0 [] _ (MakerAt.new (Nat.le_refl _)) (by simp) (by omega) (by omega) (by omega) (by omega) (by omega) (by omega)).mono ?_;rintro e w2 ⟨rfl,⟨sv,hb,hown,hB⟩,hbel⟩;have e4:([]:List Int)++Zk v.toNat (14:Int).toNat (0:Int).toNat=zG2 4 v most:=by
  show Zk v.toNat 14 0=Zk v.natAbs 14 0
  rw [show v.toNat=v.natAbs by omega]
 rw [e4] at hown;have hc:=cell_of_one hb;have ht:=zBS Tryz.underlying49 Tryz.underlying5 Tryz.underlying9 hown;have H2:=zh (H1.out.trans (((Only.refl [] w1).alloc _).trans_below hbel (Nat.le_refl _)));clear hb hown hbel;go_wp2;go_ret2;exact ⟨rfl,H2.out⟩
theorem zLn (el v most:Int) (w:World) (h:zy (zK el) v most=true) (hk:zK el=3) (hv:0<v):
 Calls Tryz.prog 228 #[.int .i64 el,.int .i64 v,.int .i64 most] w fun e w'=>e=.returned (.tuple #[.string (strOfNums (zG2 3 v most)),.int .i64 0])∧Only [] w w':=by
 have hb:-32767≤v∧v≤32767:=by rw [hk] at h;simpa [zy] using h
 have H:=zh h;have Hk:=zh hk;obtain ⟨v0,v1⟩:=hb;clear h hk
 go_enter Tryz.func228,Tryz.ntmps228
 go_wp2_with fail
 refine (Zt w.heap.size el _ (ZA _ _)).mono ?_;rintro e w1 ⟨rfl,h1⟩;have H1:=zh (((Only.refl [] w).alloc (.cells kNew 331)).trans' h1 (by simp));clear h1
 go_wp2_with fail
 refine (zCC (zK el) v most _).mono ?_;rintro e w2 ⟨rfl,rfl⟩;rw [H.out,Hk.out]
 go_wp2_with fail
 refine (zFS v _ (by omega) (by omega)).mono ?_;rintro e w2 ⟨rfl,rfl⟩
 go_wp2_with fail
 refine (zB5 w1.heap.size w1.heap.size v.natAbs 9 3 [] _ (MakerAt.new (Nat.le_refl _)) (by simp) (by omega) (by omega) (by omega) (by omega) (by omega) (by omega)).mono ?_;rintro e w2 ⟨rfl,hM,hbel0⟩;have Hb0:=zh hbel0;clear hbel0
 go_wp2_with fail
 refine (zAu w1.heap.size w1.heap.size 0 _ _ hM (by rw [List.nil_append];have:=zA6 (v.natAbs:Int).toNat (9:Int).toNat (3:Int).toNat;omega) (by omega) (by omega)).mono ?_;rintro e w3 ⟨rfl,⟨sv,hb,hown,hB⟩,hbel1⟩;have hbel:=Hb0.out.trans hbel1;clear hbel1;have e4:(([]:List Int)++Zk ((v.natAbs:Nat):Int).toNat (9:Int).toNat (3:Int).toNat)++[97+0]=zG2 3 v most:=by
  show Zk v.natAbs 9 3++[97+0]=Zk v.natAbs 9 3++zCp v
  congr 1
  unfold zCp;rw [if_pos hv];rfl
 rw [e4] at hown;have hc:=cell_of_one hb;have ht:=zBS Tryz.underlying49 Tryz.underlying5 Tryz.underlying9 hown;have H2:=zh (H1.out.trans (((Only.refl [] w1).alloc _).trans_below hbel (Nat.le_refl _)));clear hb hown hbel;go_wp2;go_ret2;exact ⟨rfl,H2.out⟩
theorem zLo (el v most:Int) (w:World) (h:zy (zK el) v most=true) (hk:zK el=3) (hv:v<0):
 Calls Tryz.prog 228 #[.int .i64 el,.int .i64 v,.int .i64 most] w fun e w'=>e=.returned (.tuple #[.string (strOfNums (zG2 3 v most)),.int .i64 0])∧Only [] w w':=by
 have hb:-32767≤v∧v≤32767:=by rw [hk] at h;simpa [zy] using h
 have H:=zh h;have Hk:=zh hk;obtain ⟨v0,v1⟩:=hb;clear h hk
 go_enter Tryz.func228,Tryz.ntmps228
 go_wp2_with fail
 refine (Zt w.heap.size el _ (ZA _ _)).mono ?_;rintro e w1 ⟨rfl,h1⟩;have H1:=zh (((Only.refl [] w).alloc (.cells kNew 331)).trans' h1 (by simp));clear h1
 go_wp2_with fail
 refine (zCC (zK el) v most _).mono ?_;rintro e w2 ⟨rfl,rfl⟩;rw [H.out,Hk.out]
 go_wp2_with fail
 refine (zFS v _ (by omega) (by omega)).mono ?_;rintro e w2 ⟨rfl,rfl⟩
 go_wp2_with fail
 refine (zB5 w1.heap.size w1.heap.size v.natAbs 9 3 [] _ (MakerAt.new (Nat.le_refl _)) (by simp) (by omega) (by omega) (by omega) (by omega) (by omega) (by omega)).mono ?_;rintro e w2 ⟨rfl,hM,hbel0⟩;have Hb0:=zh hbel0;clear hbel0
 go_wp2_with fail
 refine (zAu w1.heap.size w1.heap.size 1 _ _ hM (by rw [List.nil_append];have:=zA6 (v.natAbs:Int).toNat (9:Int).toNat (3:Int).toNat;omega) (by omega) (by omega)).mono ?_;rintro e w3 ⟨rfl,⟨sv,hb,hown,hB⟩,hbel1⟩;have hbel:=Hb0.out.trans hbel1;clear hbel1;have e4:(([]:List Int)++Zk ((v.natAbs:Nat):Int).toNat (9:Int).toNat (3:Int).toNat)++[97+1]=zG2 3 v most:=by
  show Zk v.natAbs 9 3++[97+1]=Zk v.natAbs 9 3++zCp v
  congr 1
  unfold zCp;rw [if_neg (by omega),if_pos hv];rfl
 rw [e4] at hown;have hc:=cell_of_one hb;have ht:=zBS Tryz.underlying49 Tryz.underlying5 Tryz.underlying9 hown;have H2:=zh (H1.out.trans (((Only.refl [] w1).alloc _).trans_below hbel (Nat.le_refl _)));clear hb hown hbel;go_wp2;go_ret2;exact ⟨rfl,H2.out⟩
theorem zKk (el v most:Int) (w:World) (h:zy (zK el) v most=true) (hk:zK el=3) (hv:¬ 0<v) (hv':¬ v<0):
 Calls Tryz.prog 228 #[.int .i64 el,.int .i64 v,.int .i64 most] w fun e w'=>e=.returned (.tuple #[.string (strOfNums (zG2 3 v most)),.int .i64 0])∧Only [] w w':=by
 have hb:-32767≤v∧v≤32767:=by rw [hk] at h;simpa [zy] using h
 have H:=zh h;have Hk:=zh hk;obtain ⟨v0,v1⟩:=hb;clear h hk
 go_enter Tryz.func228,Tryz.ntmps228
 go_wp2_with fail
 refine (Zt w.heap.size el _ (ZA _ _)).mono ?_;rintro e w1 ⟨rfl,h1⟩;have H1:=zh (((Only.refl [] w).alloc (.cells kNew 331)).trans' h1 (by simp));clear h1
 go_wp2_with fail
 refine (zCC (zK el) v most _).mono ?_;rintro e w2 ⟨rfl,rfl⟩;rw [H.out,Hk.out]
 go_wp2_with fail
 refine (zFS v _ (by omega) (by omega)).mono ?_;rintro e w2 ⟨rfl,rfl⟩
 go_wp2_with fail
 refine (zB5 w1.heap.size w1.heap.size v.natAbs 9 3 [] _ (MakerAt.new (Nat.le_refl _)) (by simp) (by omega) (by omega) (by omega) (by omega) (by omega) (by omega)).mono ?_;rintro e w2 ⟨rfl,hM,hbel0⟩;obtain ⟨sv,hb,hown,hB⟩:=hM;have hbel:=hbel0;clear hbel0;have e4:([]:List Int)++Zk ((v.natAbs:Nat):Int).toNat (9:Int).toNat (3:Int).toNat=zG2 3 v most:=by
  show Zk v.natAbs 9 3=Zk v.natAbs 9 3++zCp v
  unfold zCp;rw [if_neg (by omega),if_neg (by omega),List.append_nil]
 rw [e4] at hown;have hc:=cell_of_one hb;have ht:=zBS Tryz.underlying49 Tryz.underlying5 Tryz.underlying9 hown;have H2:=zh (H1.out.trans (((Only.refl [] w1).alloc _).trans_below hbel (Nat.le_refl _)));clear hb hown hbel;go_wp2;go_ret2;exact ⟨rfl,H2.out⟩
theorem zIf (el v most:Int) (w:World):
 Calls Tryz.prog 228 #[.int .i64 el,.int .i64 v,.int .i64 most] w fun e w'=>e=.returned (.tuple #[.string (strOfNums (zCs el v most)),.int .i64 (zAx el v most)])∧Only [] w w':=by
 cases h:zy (zK el) v most with
 |false=>
  have e1:zCs el v most=[]:=by simp [zCs,h]
  have e2:zAx el v most=600:=by simp [zAx,h]
  rw [e1,e2];exact zM2 el v most w h
 |true=>
  have e1:zCs el v most=zG2 (zK el) v most:=by simp [zCs,h]
  have e2:zAx el v most=0:=by simp [zAx,h]
  rw [e1,e2];obtain ⟨r0,r1⟩:=zEI el;have h0:zK el≠0:=by intro e;rw [e] at h;simp [zy] at h
  rcases (show zK el=1∨zK el=2∨zK el=3∨zK el=4 by omega) with hk|hk|hk|hk
  ·rw [hk];exact zKm el v most w h hk
  ·rw [hk];exact zJP el v most w h hk
  ·rw [hk]
   by_cases hv:0<v
   ·exact zLn el v most w h hk hv
   ·by_cases hv':v<0
    ·exact zLo el v most w h hk hv'
    ·exact zKk el v most w h hk hv hv'
  ·rw [hk];exact zJQ el v most w h hk
theorem zHU (qp:Int) (w:World) (h0:-9223372036854775808≤qp) (h1:qp≤9223372036854775807):
 Calls Tryz.prog 36 #[.int .i64 qp] w fun e w'=>∃ g,e=.returned (.slice (some ⟨g,0,none⟩) 256 256)∧w'.heap[g]? =some (.cells (ints (zAm qp)) 3 (0,0))∧w.heap.size≤g∧Only [] w w':=by
 obtain ⟨q0,q1⟩:=zGn qp;have hq:(qp<0∧zBk qp=0)∨(51<qp∧zBk qp=51)∨(0≤qp∧qp≤51∧zBk qp=qp):=by
  unfold zBk;split
  ·omega
  ·split<;>omega
 obtain ⟨f,hf⟩:∃ f,f=zKK (zBk qp):=⟨_,rfl⟩;have hl:zAm qp=(List.range 256).map f:=by rw [hf];rfl
 rw [hl];clear hl;generalize zBk qp=q at*;have hm:∀ k:Nat,(-1020:Int)≤((7*(k:Int)+5)%41-20)*q∧((7*(k:Int)+5)%41-20)*q≤1020:=by
  intro k;have h1:(-20:Int)≤(7*(k:Int)+5)%41-20:=by omega
  have h2:(7*(k:Int)+5)%41-20≤(20:Int):=by omega
  have h3:=Int.mul_le_mul_of_nonneg_right h1 q0;have h4:=Int.mul_le_mul_of_nonneg_right h2 q0;omega
 have Hm:=zh hm;clear hm
 rcases hq with ⟨hq,rfl⟩|⟨hq,rfl⟩|⟨hq,hq2,rfl⟩
 all_goals
  have Hf:=zh hf;clear hf
  go_enter Tryz.func36,Tryz.ntmps36
  go_wp2_with (at_make;refine zCG rfl _ _ rfl zEQ rfl 256 rfl rfl rfl rfl (by decide) (by decide) ?_)
  intro w1 hb ho hs;rw [zAL,←zC7 f 256] at hb;have Hb:=zh hb;have Ho:=zh ho;clear hb ho hs;go_wp2
  go_loopw [14] (fun i wr=>∃ k:Nat,k≤256∧i=.int .i64 k∧wr.heap[w.heap.size]? =some (.cells (ints (zA3 f 256 k)) 3 (0,0))∧Only [] w wr) (fun i _=>256-(intOf i).toNat)
  case atStart=>exact ⟨0,by omega,rfl,Hb.out,Ho.out⟩
  case round=>
   obtain ⟨k,hk,rfl,hblk,hon⟩:=hrel
   by_cases hlt:k<256
   ·have c1:∃ v0,wr.cell? ⟨w.heap.size,k,none⟩=some v0:=⟨_,by rw [zA hblk];exact zBh _ _ (by rw [zA7];exact hlt)⟩;obtain ⟨v0,c1⟩:=c1;have z:=ZB hblk k;have Hblk:=zh hblk;have Hon:=zh hon;clear hblk hon;obtain ⟨hm0,hm1⟩:=Hm.out k;go_wp2
    all_goals
     go_roundw
     case rel=>
      refine ⟨k+1,by omega,by go_num,?_,Hon.out.setCell (.inr (Nat.le_refl _)) _⟩;rw [zB _ Hblk.out,zBu,zDy];rw [Hf.out];unfold zKK zLR zLS;omega
     case measure=>simp [intOf]<;>omega
   ·obtain rfl:k=256:=by omega
    rw [zC8] at hblk;have Hblk:=zh hblk;have Hon:=zh hon;clear hblk hon;go_wp2;go_ret;exact ⟨_,rfl,Hblk.out,Nat.le_refl _,Hon.out⟩
theorem zAE (q:Int):(zAm q).length=256:=by simp [zAm]
end Go.Proofs.YtcppbdlmcbjmeaaGreatDoor
