/- Lemmas that the law needs, part 27. -/
import Derived.Test.YtcppbdlmcbjmeaaGreatDoorK26
import Derived.Test.YtcppbdlmcbjmeaaGreatDoorK15
import Derived.Test.YtcppbdlmcbjmeaaGreatDoorK23
set_option maxHeartbeats 6400000
set_option maxRecDepth 100000
namespace Go.Proofs.YtcppbdlmcbjmeaaGreatDoor
open Go.RowKit
section
variable {P:Program} {ops:Array Oper} {Q:Exit→Act→World→Prop} {md:Region.Mode} {S:World→Prop} {m:Nat}
theorem AnyL.sk (i:Nat) {oi:Oper} {rest:List Oper} {n:Nat} {listed:Array Bool} {a a':Act} {w:World} (hi:ops.toList.drop i=oi::rest:=by rfl)
 (hg:(Region.noSelect ops&&(Region.free md ops listed i&&((Region.ready md ops listed).contains i&&((zDa md ops i).contains m&&zCX md ops listed i (zDa md ops i)))))=true:=by kernel_rfl)
 (hw:Region.wanted oi (yielded ops a.tmps)=false:=by rfl) (hS:S w:=by assumption)
 (hQ:∀ c a w,Q (.panic c) (a.put oi.dst undef) w→Q (.panic c) a w:=by exact fun _ _ _ h=>h)
 (ha:a.put oi.dst undef=a':=by ((try simp only [zpt]);with_reducible rfl))
 (h:AnyL P md ops Q S m n (listed.setIfInBounds i true) a' w):AnyL P md ops Q S m (n+1) listed a w:=by
 simp only [Bool.and_eq_true] at hg;rw [←ha] at h;exact AnyL.take i hi hg.1 hg.2.1 hg.2.2.1 (by rw [Bool.and_eq_true];exact hg.2.2.2) hQ hS (.inr ⟨hw,rfl⟩) h
end
def pq (y:Nat→Int) (p:Nat):Nat→Int:=fun j=>y (20+(7*p+j))
def zFb (t shape:Int) (y:Nat→Int) (u:List Nat) (p:Nat):Prop:=zAX 7 (pq y p) (pq y (hd0 u))=true∧zDN t shape (pq y p)
def zEB (t:Int) (y:Nat→Int):Prop:=(0≤y 1∧y 1≤3)∧∀ u∈ZD (y 1),∀ p∈u,zFb t (y 1) y u p
theorem zLF {mb:Nat} {y:Nat→Int} {X:Nat→Value} {t:Int} {w:World} (hm:BlkIn w mb 483 51 X) (hX:∀ j,j<482→X j=.int .i64 (y j)):
 Calls Tryz.prog 50 #[.pointer (some ⟨mb,0,none⟩),.int .i64 t,.bool true] w fun e w'=>Tells (zEB t y) w e w':=by
 have HB:Hid (∀ wr,Only [] w wr→BlkIn wr mb 483 51 X):=zh (fun wr ho=>hm.only ho (by simp));have HX:=zh hX;obtain ⟨sh,hsh⟩:∃ s,s=y 1:=⟨_,rfl⟩;have HC1:Hid (∀ wr,Only [] w wr→wr.cell? ⟨mb,1,none⟩=some (.int .i64 sh)):=zh (fun wr ho=>by rw [(HB.out wr ho).cell 1 (by decide),hX 1 (by decide),hsh]);have HP:Hid (zEB t y↔(0≤sh∧sh≤3)∧∀ u∈ZD sh,∀ p∈u,zFb t sh y u p):=zh (by rw [hsh];rfl);have c1:=HC1.out w (Only.refl _ _);clear hm hX hsh
 go_enter Tryz.func50,Tryz.ntmps50
 go_wp2_with fail
 refine (zAY _ _ _ _).mono ?_;rintro e w1 ⟨rfl,rfl⟩
 by_cases hs:0≤sh∧sh≤3
 case neg=>
  have Hno:Hid (¬ zEB t y):=zh (fun h=>hs (HP.out.1 h).1);rw [show (decide (0≤sh)&&decide (sh≤3))=false by simpa using hs];go_wp2;go_ret;exact Tells.no Hno.out (Only.refl _ _)
 case pos=>
  have HP2:Hid (zEB t y↔∀ u∈ZD sh,∀ p∈u,zFb t sh y u p):=zh ⟨fun h=>(HP.out.1 h).2,fun h=>HP.out.2 ⟨hs,h⟩⟩;have HS:=zh hs;rw [decide_eq_true hs.1,decide_eq_true hs.2,Bool.and_true];clear HP hs
  go_wp2_with fail
  refine (zGL sh _).mono ?_;rintro e w3 ⟨v,rfl,U,hU,hUw,o3⟩;have us:=zO sh;have ul:=zBD sh;obtain ⟨un,hun⟩:∃ un,un=ZD sh:=⟨_,rfl⟩;rw [←hun] at hU us ul HP2;obtain ⟨g,hg,rfl,hgs⟩:=hU.sl;have HGS:=zh hgs;have O3:=zh o3;have US:=zh us;obtain ⟨m,hm⟩:∃ m,m=un.length:=⟨_,rfl⟩;rw [←hm] at ul ⊢;have HM:=zh hm;clear hun hU hgs us hUw o3 hm hg c1
  go_wp2_with fail
  go_loopw [23] (fun s wx=>∃ i:Nat,i≤m∧s=.int .i64 (i:Int)∧Hid (Only [] w3 wx∧∀ u∈un.take i,∀ p∈u,zFb t sh y u p)) (fun s _=>(m-intOf s).toNat)
  case atStart=>exact ⟨0,by omega,rfl,zh ⟨Only.refl _ _,fun u hu=>by simp at hu⟩⟩
  case round=>
   obtain ⟨i,hi,rfl,Hx⟩:=hrel
   by_cases him:i<m
   ·obtain ⟨ps,hp⟩:∃ ps,un[i]? =some ps:=⟨_,List.getElem?_eq_getElem (by rw [←HM.out];exact him)⟩;obtain ⟨b,hb,c0,c1⟩:=HGS.out i ps hp;have c0:=Hx.out.1.cell c0 (by simp);have HC:Hid (∀ (wx:World),Only [] w3 wx→∀ (j p:Nat),ps[j]? =some p→wx.cell? ⟨b,j,none⟩=some (.int .i64 p)):=zh (fun wx ho j p hj=>ho.cell (c1 j p hj) (by simp));have hpl:=(US.out ps (List.mem_of_getElem? hp)).1;have hp1:=(US.out ps (List.mem_of_getElem? hp)).2.1;have HPs:=zh (US.out ps (List.mem_of_getElem? hp)).2.2;have HmS:=zh (List.mem_of_getElem? hp);have HTS:=zh (zBn un i ps hp);obtain ⟨hd,hhd⟩:∃ h,h=hd0 ps:=⟨_,rfl⟩;have Hh0:Hid (ps[0]? =some hd):=zh (by
     rw [hhd]
     rcases ps with _|⟨a,l⟩
     ·exact absurd hp1 (by decide)
     ·rfl)
    have Hhd:=zh hhd;obtain ⟨m2,hm2⟩:∃ m2,m2=ps.length:=⟨_,rfl⟩;rw [←hm2] at c0 hpl hp1;have HM2:=zh hm2;have hd4:hd<4:=HPs.out hd (List.mem_of_getElem? Hh0.out);have hd4i:(hd:Int)<4:=by omega
    clear c1 hp hm2 hhd
    go_wp2_with fail
    clear c0
    go_loopw [29] (fun s wx=>∃ j:Nat,j≤m2∧s=.int .i64 (j:Int)∧Hid (Only [] w3 wx∧∀ p∈ps.take j,zFb t sh y ps p)) (fun s _=>(m2-intOf s).toNat)
    case atStart=>exact ⟨0,by omega,rfl,zh ⟨Hx.out.1,fun u hu=>by simp at hu⟩⟩
    case round=>
     obtain ⟨j,hj,rfl,Hy⟩:=hrel
     by_cases hjm:j<m2
     ·obtain ⟨p,hp⟩:∃ p,ps[j]? =some p:=⟨_,List.getElem?_eq_getElem (by rw [←HM2.out];exact hjm)⟩;have p4:p<4:=HPs.out p (List.mem_of_getElem? hp);have p4i:(p:Int)<4:=by omega
      have c0:=HC.out wr Hy.out.1 j p hp;have ch:=HC.out wr Hy.out.1 0 hd Hh0.out;have Ow:Hid (Only [] w wr):=zh (O3.out.trans Hy.out.1);have Oy:Hid (Only [] w3 wr):=zh Hy.out.1;have HNO:Hid (¬ zFb t sh y ps p→¬ zEB t y):=zh (fun h h2=>h (HP2.out.1 h2 ps HmS.out p (List.mem_of_getElem? hp)));have HYES:Hid (zFb t sh y ps p→∀ p∈ps.take (j+1),zFb t sh y ps p):=zh (fun h q hq=>by
       rw [zBn ps j p hp] at hq
       rcases List.mem_append.1 hq with hq|hq
       ·exact Hy.out.2 q hq
       ·rw [List.mem_singleton.1 hq];exact h)
      have cs:=HC1.out wr Ow.out;have hrow:∀ q,q<4→wr.rangeAt mb (20+q*7) [.int .i64 (pq y q 0),.int .i64 (pq y q 1),.int .i64 (pq y q 2),.int .i64 (pq y q 3),.int .i64 (pq y q 4),.int .i64 (pq y q 5),.int .i64 (pq y q 6)]:=fun q hq=>
       zAN (o:=20+q*7) (len:=7) (HB.out wr Ow.out) (pq y q) (fun j hj=>by rw [HX.out _ (by omega)];unfold pq;rw [show 20+q*7+j=20+(7*q+j) by omega]) (by omega)
      have hr1:=hrow p p4;have hr2:=hrow hd hd4;have heq:∀ w,(Op.equalIn 10000 45 (.agg #[.int .i64 (pq y p 0),.int .i64 (pq y p 1),.int .i64 (pq y p 2),.int .i64 (pq y p 3),.int .i64 (pq y p 4),.int .i64 (pq y p 5),.int .i64 (pq y p 6)]) (.agg #[.int .i64 (pq y hd 0),.int .i64 (pq y hd 1),.int .i64 (pq y hd 2),.int .i64 (pq y hd 3),.int .i64 (pq y hd 4),.int .i64 (pq y hd 5),.int .i64 (pq y hd 6)])).run Tryz.prog w=.ok (zAX 7 (pq y p) (pq y hd)) w:=fun w=>zC9 (pq y p) (pq y hd) 9996 w
      obtain ⟨M,hM⟩:∃ M,M=zAX 7 (pq y p) (pq y hd):=⟨_,rfl⟩;have HUP:Hid (zFb t sh y ps p↔M=true∧zDN t sh (pq y p)):=zh (by rw [hM,Hhd.out];rfl);rw [←hM] at heq;obtain ⟨P1,hP1⟩:∃ L,L=([.int .i64 (pq y p 0),.int .i64 (pq y p 1),.int .i64 (pq y p 2),.int .i64 (pq y p 3),.int .i64 (pq y p 4),.int .i64 (pq y p 5),.int .i64 (pq y p 6)]:List Value):=⟨_,rfl⟩;obtain ⟨P2,hP2⟩:∃ L,L=([.int .i64 (pq y hd 0),.int .i64 (pq y hd 1),.int .i64 (pq y hd 2),.int .i64 (pq y hd 3),.int .i64 (pq y hd 4),.int .i64 (pq y hd 5),.int .i64 (pq y hd 6)]:List Value):=⟨_,rfl⟩;have HI1:=zh (show (Tryz.prog.info? 45).map (·.size)=some P1.length by rw [hP1];show _=some 7;kernel_rfl);have HI2:=zh (show (Tryz.prog.info? 45).map (·.size)=some P2.length by rw [hP2];show _=some 7;kernel_rfl);have hpt:=fun wx=>zMg (pq y p) t sh wx
      unfold zCP at hpt
      change ∀ w,(Op.equalIn 10000 45 (.agg ([.int .i64 (pq y p 0),.int .i64 (pq y p 1),.int .i64 (pq y p 2),.int .i64 (pq y p 3),.int .i64 (pq y p 4),.int .i64 (pq y p 5),.int .i64 (pq y p 6)]:List Value).toArray) (.agg ([.int .i64 (pq y hd 0),.int .i64 (pq y hd 1),.int .i64 (pq y hd 2),.int .i64 (pq y hd 3),.int .i64 (pq y hd 4),.int .i64 (pq y hd 5),.int .i64 (pq y hd 6)]:List Value).toArray)).run Tryz.prog w=.ok M w at heq
      change ∀ wx,Calls Tryz.prog 90 #[.agg ([.int .i64 (pq y p 0),.int .i64 (pq y p 1),.int .i64 (pq y p 2),.int .i64 (pq y p 3),.int .i64 (pq y p 4),.int .i64 (pq y p 5),.int .i64 (pq y p 6)]:List Value).toArray,.int .i64 t,.int .i64 sh,.bool true] wx _ at hpt
      rw [←hP1,←hP2] at heq;rw [←hP1] at hr1 hpt;rw [←hP2] at hr2;have HPT:=zh hpt;clear hrow hp hM hP1 hP2 hpt Hy;have h0m:0<m2:=by omega
      go_wp2_with fail
      refine zH (by kernel_rfl) (fun w':World=>w'.cell? ⟨mb,1,none⟩=some (.int .i64 sh)∧w'.cell? ⟨b,0,none⟩=some (.int .i64 hd)∧w'.rangeAt mb (20+p*7) P1∧w'.rangeAt mb (20+hd*7) P2) 30 ?_;have hS0:(fun w':World=>w'.cell? ⟨mb,1,none⟩=some (.int .i64 sh)∧w'.cell? ⟨b,0,none⟩=some (.int .i64 hd)∧w'.rangeAt mb (20+p*7) P1∧w'.rangeAt mb (20+hd*7) P2) wr.drew:=⟨cs,ch,hr1,hr2⟩;refine AnyL.tk 0 (h:=?_);refine AnyL.tk 1 (h:=?_);refine AnyL.tk 2 (h:=?_);refine AnyL.tk 3 (h:=?_);refine AnyL.tk 4 (h:=?_);refine AnyL.tl 5 rfl (yieldsIf_load_mid (by rfl) _ _ rfl mb (20+p*7) rfl P1 _ (fun w' h=>h.2.2.1) Tryz.underlying45 rfl HI1.out) ?_;refine AnyL.tk 6 (h:=?_);refine AnyL.tk 7 (h:=?_);refine AnyL.tk 8 (h:=?_);refine AnyL.tk 9 (h:=?_);refine AnyL.tk 10 (h:=?_);refine AnyL.tk 11 (h:=?_);refine AnyL.tk 12 (h:=?_)
      refine AnyL.tl 13 rfl (yieldsIf_load_mid (by rfl) _ _ rfl mb (20+hd*7) rfl P2 _ (fun w' h=>h.2.2.2) Tryz.underlying45 rfl HI2.out) ?_;refine AnyL.tk 14 (h:=?_);refine AnyL.tk 15 (h:=?_)
      cases M with
      |false=>
       refine AnyL.sk 16 (h:=?_);refine AnyL.sk 17 (h:=?_);refine AnyL.sk 18 (h:=?_);refine AnyL.sk 19 (h:=?_);refine AnyL.sk 20 (h:=?_);refine AnyL.sk 21 (h:=?_);refine AnyL.sk 22 (h:=?_);refine AnyL.sk 23 (h:=?_);refine AnyL.sk 24 (h:=?_);refine AnyL.sk 25 (h:=?_);refine AnyL.sk 26 (h:=?_);refine AnyL.sk 27 (h:=?_);refine AnyL.sk 28 (h:=?_);refine AnyL.sk 29 (h:=?_);refine AnyL.on 30 (h:=fun K hK=>?_);go_simp;refine hK _ _ (fun h=>absurd rfl h) (fun hKq=>?_);clear hK K hKq
       try simp only [zpt]
       refine AnyL.dn (h:=?_);have Hno:=zh (HNO.out (fun h=>by have:=(HUP.out.1 h).1;cases this));have O5:=zh (Ow.out.drew);clear hS0 hr1 hr2 cs ch c0 heq HPT;go_wp2;go_ret;exact Tells.no Hno.out O5.out
      |true=>
       refine AnyL.tk 16 (h:=?_);refine AnyL.tk 17 (h:=?_);refine AnyL.tk 18 (h:=?_);refine AnyL.tk 19 (h:=?_);refine AnyL.tk 20 (h:=?_);refine AnyL.tl 21 rfl (yieldsIf_load_mid (by rfl) _ _ rfl mb (20+p*7) rfl P1 _ (fun w' h=>h.2.2.1) Tryz.underlying45 rfl HI1.out) ?_;refine AnyL.tk 22 (h:=?_);refine AnyL.tk 23 (h:=?_);refine AnyL.tk 24 (h:=?_);refine AnyL.tk 25 (h:=?_);refine AnyL.tk 26 (h:=?_);refine AnyL.tk 27 (h:=?_);refine AnyL.on 28 (h:=fun K hK=>?_);rw [if_pos (by rfl)];go_simp;refine (HPT.out wr.drew).mono ?_;rintro e w4 ⟨b4,rfl,hb4,o4⟩;have hS1:(fun w':World=>w'.cell? ⟨mb,1,none⟩=some (.int .i64 sh)∧w'.cell? ⟨b,0,none⟩=some (.int .i64 hd)∧w'.rangeAt mb (20+p*7) P1∧w'.rangeAt mb (20+hd*7) P2) w4:=⟨o4.cell hS0.1 (by simp),o4.cell hS0.2.1 (by simp),fun j v hj=>o4.cell (hS0.2.2.1 j v hj) (by simp),fun j v hj=>o4.cell (hS0.2.2.2 j v hj) (by simp)⟩
       refine hK _ _ (fun _=>hS1) (fun hKq=>?_);clear hK K hKq
       try simp only [zpt]
       refine AnyL.tk 29 (h:=?_);refine AnyL.on 30 (h:=fun K hK=>?_);go_simp;refine hK _ _ (fun h=>absurd rfl h) (fun hKq=>?_);clear hK K hKq
       try simp only [zpt]
       refine AnyL.dn (h:=?_);have O4:Hid (Only [] w3 w4):=zh ((Oy.out.drew).trans o4);have B4:=zh hb4;clear hS0 hS1 hb4 o4 hr1 hr2 cs ch c0 heq HPT
       cases b4 with
       |false=>
        have Hno:=zh (HNO.out (fun h=>absurd (B4.out.2 (HUP.out.1 h).2) (by decide)));have O5:=zh (O3.out.trans O4.out);go_wp2;go_ret;exact Tells.no Hno.out O5.out
       |true=>
        have H9:=zh (HYES.out (HUP.out.2 ⟨rfl,B4.out.1 rfl⟩));go_wp2;exact ⟨⟨j+1,by omega,rfl,zh ⟨O4.out,H9.out⟩⟩,by simp [intOf];omega⟩
     ·obtain rfl:j=m2:=by omega
      have H9:Hid (∀ u∈un.take (i+1),∀ p∈u,zFb t sh y u p):=zh (fun u hu=>by
       rw [HTS.out] at hu
       rcases List.mem_append.1 hu with hu|hu
       ·exact Hx.out.2 u hu
       ·rw [List.mem_singleton.1 hu];have:=Hy.out.2
        rwa [List.take_of_length_le (by rw [←HM2.out];exact Nat.le_refl _)] at this)
      have O4:=zh Hy.out.1
      go_wp2_with fail
      exact ⟨⟨i+1,by omega,rfl,zh ⟨O4.out,H9.out⟩⟩,by simp [intOf];omega⟩
   ·obtain rfl:i=m:=by omega
    have Hyes:Hid (zEB t y):=zh (HP2.out.2 (by
     have:=Hx.out.2
     rwa [List.take_of_length_le (by rw [←HM.out];exact Nat.le_refl _)] at this))
    have O5:=zh (O3.out.trans Hx.out.1);go_wp2;go_ret;exact Tells.yes Hyes.out O5.out
def L28 (y:Nat→Int):List Value:=[.int .i64 (y 20),.int .i64 (y 21),.int .i64 (y 22),.int .i64 (y 23),.int .i64 (y 24),.int .i64 (y 25),.int .i64 (y 26),.int .i64 (y 27),.int .i64 (y 28),.int .i64 (y 29),.int .i64 (y 30),.int .i64 (y 31),.int .i64 (y 32),.int .i64 (y 33),.int .i64 (y 34),.int .i64 (y 35),.int .i64 (y 36),.int .i64 (y 37),.int .i64 (y 38),.int .i64 (y 39),.int .i64 (y 40),.int .i64 (y 41),.int .i64 (y 42),.int .i64 (y 43),.int .i64 (y 44),.int .i64 (y 45),.int .i64 (y 46),.int .i64 (y 47)]
theorem zLY (y:Nat→Int) (w:World):(Op.equalIn 10000 46 (.agg (L28 y).toArray) (.agg #[.int .i64 0,.int .i64 0,.int .i64 0,.int .i64 0,.int .i64 0,.int .i64 0,.int .i64 0,.int .i64 0,.int .i64 0,.int .i64 0,.int .i64 0,.int .i64 0,.int .i64 0,.int .i64 0,.int .i64 0,.int .i64 0,.int .i64 0,.int .i64 0,.int .i64 0,.int .i64 0,.int .i64 0,.int .i64 0,.int .i64 0,.int .i64 0,.int .i64 0,.int .i64 0,.int .i64 0,.int .i64 0])).run Tryz.prog w=.ok (zAX 28 (fun i=>y (20+i)) (fun _=>0)) w:=zLa (fun i=>y (20+i)) (fun _=>0) 9995 w
theorem zLP (y:Nat→Int) (p:Nat) (hp:p<4) (w:World):(Instr.index 46 (.agg (L28 y).toArray) (.int .i64 p)).run Tryz.prog w=.ok (zCP (pq y p)) w:=by
 obtain rfl|rfl|rfl|rfl:p=0∨p=1∨p=2∨p=3:=by omega
 all_goals kernel_rfl
def zEz (y:Nat→Int):Prop:=∀ i,i<28→y (20+i)=0
def zMe (t shape a0 a1:Int) (y:Nat→Int) (p:Nat):Prop:=(y (20+7*p)=3∧t=1∧shape=3∧∀ j,1≤j→j<7→y (20+(7*p+j))=0)∨(zFW y a0 a1 p∧(t=0→y (20+7*p)=0))
def zBi (t a0 a1:Int) (y:Nat→Int):Prop:=(0≤y 1∧y 1≤3)∧zHc (y 1) (fun i=>y (20+i))∧∀ p,p<4→zMe t (y 1) a0 a1 y p
def zDp (y:Nat→Int) (len:Nat) (t a0 a1:Int):Prop:=zAF y len t∧(y 0≠4→zEz y)∧(y 0=4→zBi t a0 a1 y)
theorem zKJ {t a0 a1:Int} {y:Nat→Int}:zBi t a0 a1 y↔zEB t y∧∀ p,p<4→zEq a0 a1 (pq y p):=by
 constructor
 ·rintro ⟨hs,h1,h2⟩;refine ⟨⟨hs,fun u hu p hp=>?_⟩,fun p hp k hk hh=>?_⟩
  ·obtain ⟨i,hi,hiu⟩:=List.mem_iff_getElem.1 hu;obtain ⟨hd,t',e,h4,hhd,hm⟩:=ZY hs i u (by rw [List.getElem?_eq_getElem hi,hiu]);have hp4:=((zO (y 1)) u hu).2.2 p hp;have e0:hd0 u=hd:=by rw [e];rfl
   refine ⟨zAy.2 (fun j hj=>?_),?_⟩
   ·have:=h1 p j hp4 hj;rw [(hm p hp4).2 hp] at this;rw [e0];exact this
   ·rcases h2 p hp4 with h3|h3
    ·exact .inl h3
    ·exact .inr ⟨h3.1.dir,h3.2,fun k hk=>⟨h3.1.off k hk,h3.1.mv k hk⟩⟩
  ·rcases h2 p hp with h3|h3
   ·have e:pq y p 0=3:=h3.1;rw [e] at hh;obtain rfl|rfl:k=0∨k=1:=by omega
    all_goals cases hh
   ·exact h3.1.on k hk hh
 ·rintro ⟨⟨hs,h1⟩,h2⟩;have hu:∀ p,p<4→∃ u,u∈ZD (y 1)∧p∈u∧hd0 u=zF6 (y 1) p:=fun p hp=>by
   have hl:=Zn hs p hp;obtain ⟨hd,t',e,h4,hhd,hm⟩:=ZY hs (Zg (y 1) p) _ (List.getElem?_eq_getElem hl);refine ⟨_,List.getElem_mem hl,((hm p hp).1).2 rfl,?_⟩;rw [((hm p hp).2) (((hm p hp).1).2 rfl),e]
   rfl
  refine ⟨hs,fun p j hp hj=>?_,fun p hp=>?_⟩
  ·obtain ⟨u,hu1,hu2,hu3⟩:=hu p hp;have:=zAy.1 (h1 u hu1 p hu2).1 j hj;rw [hu3] at this;exact this
  ·obtain ⟨u,hu1,hu2,hu3⟩:=hu p hp
   rcases (h1 u hu1 p hu2).2 with h3|h3
   ·exact .inl h3
   ·exact .inr ⟨⟨h3.1,fun l hl=>(h3.2.2 l hl).1,h2 p hp,fun l hl=>(h3.2.2 l hl).2⟩,h3.2.1⟩
theorem zL0 {len cap:Nat} {ao:Option Addr} {y:Nat→Int} {X:Nat→Value} {Hc:Array Value} {t a0 a1:Int} {w:World} (ht:t=0∨t=1∨t=2) (h2:Hc[2]? =some (.int .i64 t)) (h7:Hc[7]? =some (.int .i64 a0)) (h8:Hc[8]? =some (.int .i64 a1)) (ba:(0≤a0∧a0≤8)∧0≤a1∧a1≤8) (hX:∀ j,j<482→X j=.int .i64 (y j)) (h482:X 482=.slice ao len cap):
 Calls Tryz.prog 24 #[.agg (fnA 483 X),.agg Hc] w fun e w'=>Tells (zDp y len t a0 a1) w e w':=by
 have heq:=zLY y;have hpz:Hid (zAX 28 (fun i=>y (20+i)) (fun _=>0)=true↔zEz y):=zh (by rw [zAy];rfl);generalize zAX 28 (fun i=>y (20+i)) (fun _=>0)=M at*;have A0:BlkIn ((w.alloc (.cells (fnA 483 X) 51)).alloc (.cells Hc 26)) w.heap.size 483 51 X:=ZE _ (ZA w _);have A1:=ZA (w.alloc (.cells (fnA 483 X) 51)) (.cells Hc 26);have OA:Hid (Only [] w ((w.alloc (.cells (fnA 483 X) 51)).alloc (.cells Hc 26))):=zh (((Only.refl [] w).alloc _).alloc _);rw [World.size_alloc] at A1;obtain ⟨wa,hwa⟩:∃ wa,wa=(w.alloc (.cells (fnA 483 X) 51)).alloc (.cells Hc 26):=⟨_,rfl⟩;rw [←hwa] at A0 A1 OA;have HB:Hid (∀ wx,Only [] wa wx→BlkIn wx w.heap.size 483 51 X):=zh (fun wx ho=>A0.only ho (by simp));have f1:wa.cell? ⟨w.heap.size+1,2,none⟩=some (.int .i64 t):=by rw [zA A1];exact h2
 have HF:Hid (∀ wx,Only [] wa wx→wx.cell? ⟨w.heap.size+1,2,none⟩=some (.int .i64 t)∧wx.cell? ⟨w.heap.size+1,7,none⟩=some (.int .i64 a0)∧wx.cell? ⟨w.heap.size+1,8,none⟩=some (.int .i64 a1)):=zh (fun wx ho=>⟨ho.cell f1 (by simp),ho.cell (by rw [zA A1];exact h7) (by simp),ho.cell (by rw [zA A1];exact h8) (by simp)⟩);obtain ⟨PL,hPL⟩:∃ L,L=L28 y:=⟨_,rfl⟩;rw [←hPL] at heq;have HR:Hid (∀ wx,Only [] wa wx→wx.rangeAt w.heap.size 20 PL):=zh (fun wx ho=>by rw [hPL];exact zAN (len:=28) (HB.out wx ho) (fun i=>y (20+i)) (fun i hi=>hX (20+i) (by omega)) (by decide));have HI:=zh (show (Tryz.prog.info? 46).map (·.size)=some PL.length by rw [hPL];show _=some 28;kernel_rfl);have HIX:Hid (∀ p:Nat,p<4→∀ w,(Instr.index 46 (.agg PL.toArray) (.int .i64 p)).run Tryz.prog w=.ok (zCP (pq y p)) w):=zh (by rw [hPL];exact zLP y);have HX:=zh hX;have H482:=zh h482
 have Ht:=zh ht;have Ba:=zh ba;obtain ⟨kd,hkd⟩:∃ k,k=y 0:=⟨_,rfl⟩;have HD:Hid (zDp y len t a0 a1↔zAF y len t∧(kd≠4→zEz y)∧(kd=4→zBi t a0 a1 y)):=zh (by rw [hkd];rfl);have HK:Hid (X 0=.int .i64 kd):=zh (by rw [hX 0 (by decide),hkd]);clear hX h482 A0 A1 ht h2 h7 h8 ba hPL hkd;obtain ⟨Xa,hXa⟩:∃ Xa,Xa=fnA 483 X:=⟨_,rfl⟩;rw [←hXa] at hwa ⊢;rw [hwa] at f1;clear hXa
 go_enter Tryz.func24,Tryz.ntmps24
 go_wp2_with fail
 rw [←hwa];clear hwa;refine (zMi Ht.out (HB.out wa (Only.refl _ _)) HX.out H482.out).mono ?_;rintro e w1 ⟨b1,rfl,hb1,o1⟩;have O1:=zh (OA.out.trans o1);have Oa:=zh o1;have B1:=zh hb1;clear o1 f1 hb1
 cases b1 with
 |false=>
  have Hno:Hid (¬ zDp y len t a0 a1):=zh (fun h=>absurd (B1.out.2 h.1) (by decide));go_wp2;go_ret;exact Tells.no Hno.out O1.out
 |true=>
  have P1:=zh (B1.out.1 rfl);have e0:w1.cell? ⟨w.heap.size,0,none⟩=some (.int .i64 kd):=by rw [(HB.out w1 Oa.out).cell 0 (by decide),HK.out]
  by_cases hk:kd=4
  ·subst hk;have HD2:Hid (zDp y len t a0 a1↔zEB t y∧∀ p,p<4→zEq a0 a1 (pq y p)):=zh (by
    rw [HD.out,zKJ];exact ⟨fun h=>h.2.2 rfl,fun h=>⟨P1.out,fun h=>absurd rfl h,fun _=>h⟩⟩)
   have f2:=(HF.out w1 Oa.out).1;clear heq HD B1 P1
   go_wp2_with fail
   refine (zLF (t:=t) (HB.out w1 Oa.out) HX.out).mono ?_;rintro e w2 ⟨b2,rfl,hb2,o2⟩;have O2:=zh (O1.out.trans o2);have Ob:=zh (Oa.out.trans o2);have B2:=zh hb2;clear o2 hb2 e0 f2
   cases b2 with
   |false=>
    have Hno:Hid (¬ zDp y len t a0 a1):=zh (fun h=>absurd (B2.out.2 (HD2.out.1 h).1) (by decide));go_wp2;go_ret;exact Tells.no Hno.out O2.out
   |true=>
    have HD3:Hid (zDp y len t a0 a1↔∀ p,p<4→zEq a0 a1 (pq y p)):=zh ⟨fun h=>(HD2.out.1 h).2,fun h=>HD2.out.2 ⟨B2.out.1 rfl,h⟩⟩;have HR2:=zh (HR.out w2 Ob.out);clear B2 HD2
    go_wp2_with (with_reducible refine wpList_load_mid rfl _ _ rfl w.heap.size 20 rfl PL _ HR2.out Tryz.underlying46 rfl HI.out ?_)
    go_wp2;generalize PL.toArray=PA at*
    go_loopw [24] (fun s wx=>∃ k:Nat,k≤4∧s=.int .i64 (k:Int)∧Hid (Only [] w2 wx∧∀ p,p<k→zEq a0 a1 (pq y p))) (fun s _=>(4-intOf s).toNat)
    case atStart=>exact ⟨0,by omega,rfl,zh ⟨Only.refl _ _,fun p hp=>absurd hp (by omega)⟩⟩
    case round=>
     obtain ⟨k,hk,rfl,Hy⟩:=hrel
     by_cases hk4:k<4
     ·have hix:=HIX.out k hk4;have hO:=Hy.out.1;have Oy:=zh hO;have Oc:=zh (Ob.out.trans hO);have HNO:Hid (¬ zEq a0 a1 (pq y k)→¬ zDp y len t a0 a1):=zh (fun h h2=>h (HD3.out.1 h2 k hk4));have HYES:Hid (zEq a0 a1 (pq y k)→∀ p,p<k+1→zEq a0 a1 (pq y p)):=zh (fun h p hp=>by
       by_cases e:p=k
       ·rw [e];exact h
       ·exact Hy.out.2 p (by omega))
      have Hrf:Hid (∀ wx,Only [] wa wx→Calls Tryz.prog 51 #[zCP (pq y k),.pointer (some ⟨w.heap.size+1,0,none⟩)] wx fun e w'=>Tells (zEq a0 a1 (pq y k)) wx e w'):=zh (fun wx ho=>zLE (pq y k) (HF.out wx ho).2.1 (HF.out wx ho).2.2 Ba.out);clear Hy;unfold zCP at hix Hrf;generalize pq y k 0=q0 at hix Hrf;generalize pq y k 1=q1 at hix Hrf;generalize pq y k 2=q2 at hix Hrf;generalize pq y k 3=q3 at hix Hrf;generalize pq y k 4=q4 at hix Hrf;generalize pq y k 5=q5 at hix Hrf;generalize pq y k 6=q6 at hix Hrf;have A5:=ZA wr (.cells #[.int .i64 q0,.int .i64 q1,.int .i64 q2,.int .i64 q3,.int .i64 q4,.int .i64 q5,.int .i64 q6] 45);have HR5:=zh (zAA A5);have HI5:=zh (show (Tryz.prog.info? 45).map (·.size)=some ([.int .i64 q0,.int .i64 q1,.int .i64 q2,.int .i64 q3,.int .i64 q4,.int .i64 q5,.int .i64 q6]:List Value).length by show _=some 7;kernel_rfl)
      have O5:Hid (Only [] wr (wr.alloc (.cells #[.int .i64 q0,.int .i64 q1,.int .i64 q2,.int .i64 q3,.int .i64 q4,.int .i64 q5,.int .i64 q6] 45))):=zh ((Only.refl [] wr).alloc _);clear A5 hO
      go_wp2_with (with_reducible refine wpList_load_mid rfl _ _ rfl wr.heap.size 0 rfl _ _ HR5.out Tryz.underlying45 rfl HI5.out ?_)
      refine (Hrf.out _ (Oc.out.trans O5.out)).mono ?_;rintro e w4 ⟨b4,rfl,hb4,o4⟩;have O4:=zh ((Oy.out.trans O5.out).trans o4);have B4:=zh hb4;clear o4 hb4 O5 HR5 hix
      cases b4 with
      |false=>
       have Hno:=zh (HNO.out (fun h=>absurd (B4.out.2 h) (by decide)));have O6:=zh (O2.out.trans O4.out);go_wp2;go_ret;exact Tells.no Hno.out O6.out
      |true=>
       have H9:=zh (HYES.out (B4.out.1 rfl));go_wp2;exact ⟨⟨k+1,by omega,rfl,zh ⟨O4.out,H9.out⟩⟩,by simp [intOf];omega⟩
     ·obtain rfl:k=4:=by omega
      have Hyes:=zh (HD3.out.2 Hy.out.2);have O6:=zh (O2.out.trans Hy.out.1);go_wp2;go_ret;exact Tells.yes Hyes.out O6.out
  ·have hk4:(kd==4)=false:=by simpa using hk
   have HD2:Hid (zDp y len t a0 a1↔zEz y):=zh (by
    rw [HD.out];exact ⟨fun h=>h.2.1 hk,fun h=>⟨P1.out,fun _=>h,fun h=>absurd h hk⟩⟩)
   have HR1:=zh (HR.out w1 Oa.out);clear HD hk B1 P1
   go_wp2_with (with_reducible refine wpList_load_mid rfl _ _ rfl w.heap.size 20 rfl PL _ HR1.out Tryz.underlying46 rfl HI.out ?_)
   go_wp2;go_ret;exact Tells.of (by rw [hpz.out,HD2.out]) O1.out
end Go.Proofs.YtcppbdlmcbjmeaaGreatDoor
