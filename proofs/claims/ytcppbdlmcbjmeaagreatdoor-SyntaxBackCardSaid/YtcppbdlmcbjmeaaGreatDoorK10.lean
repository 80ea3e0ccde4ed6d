/- Lemmas that the law needs, part 10. -/
import Derived.Test.YtcppbdlmcbjmeaaGreatDoorK09
set_option maxHeartbeats 12000000
set_option maxRecDepth 100000
namespace Go.Proofs.YtcppbdlmcbjmeaaGreatDoor
open Go.RowKit
def Tells (P:Prop) (w:World) (e:Ending) (w':World):Prop:=∃ b,e=.returned (.bool b)∧(b=true↔P)∧Only [] w w'
theorem Tells.yes {P:Prop} {w w':World} (h:P) (ho:Only [] w w'):Tells P w (.returned (.bool true)) w':=⟨true,rfl,⟨fun _=>h,fun _=>rfl⟩,ho⟩
theorem Tells.no {P:Prop} {w w':World} (h:¬ P) (ho:Only [] w w'):Tells P w (.returned (.bool false)) w':=⟨false,rfl,⟨fun h1=>absurd h1 (by decide),fun h2=>absurd h2 h⟩,ho⟩
theorem Tells.of {P:Prop} {w w':World} {b:Bool} (h:b=true↔P) (ho:Only [] w w'):Tells P w (.returned (.bool b)) w':=⟨b,rfl,h,ho⟩
theorem zC2 {mb off n cap:Nat} {y:Nat→Int} {w:World} (hc:∀ i,i<n→w.cell? ⟨mb,off+i,none⟩=some (.int .i64 (y (off+i)))) (hn:n≤16):
 Calls Tryz.prog 115 #[.slice (some ⟨mb,off,none⟩) n cap] w fun e w'=>Tells (∀ i,i<n→y (off+i)=0) w e w':=by
 have Hc:=zh hc;clear hc
 go_enter Tryz.func115,Tryz.ntmps115
 go_wp2
 go_loop [7] (fun q=>∃ k:Nat,k≤n∧q=.int .i64 k∧Hid (∀ i,i<k→y (off+i)=0)) (fun q=>n-(intOf q).toNat)
 case atStart=>exact ⟨0,Nat.zero_le _,rfl,zh (fun i hi=>absurd hi (Nat.not_lt_zero i))⟩
 case round=>
  obtain ⟨k,hk,rfl,hz⟩:=hrel
  by_cases hlt:k<n
  ·have c1:=Hc.out k hlt;obtain ⟨x,hx⟩:∃ x,x=y (off+k):=⟨_,rfl⟩;rw [←hx] at c1;have Hx:=zh hx;clear hx
   by_cases h0:x=0
   ·subst h0;go_wp2
    go_round
    case rel=>exact ⟨k+1,by omega,by go_num,zh (fun i hi=>by
     by_cases e:i=k
     ·rw [e,←Hx.out]
     ·exact hz.out i (by omega))⟩
    case measure=>simp [intOf]<;>omega
   ·have hb:(x != 0)=true:=by simp [h0]
    have hno:¬ ∀ i,i<n→y (off+i)=0:=fun h=>h0 (by rw [Hx.out];exact h k hlt)
    have Hno:=zh hno;clear hno;go_wp2;go_ret;exact Tells.no Hno.out (Only.refl _ _)
  ·obtain rfl:k=n:=by omega
   go_wp2;go_ret;exact Tells.yes hz.out (Only.refl _ _)
theorem zAq {mb off n cap:Nat} {y:Nat→Int} {w:World} (hc:∀ i,i<n→w.cell? ⟨mb,off+i,none⟩=some (.int .i64 (y (off+i)))) (hn:n≤16):
 Calls Tryz.prog 116 #[.slice (some ⟨mb,off,none⟩) n cap] w fun e w'=>Tells (∀ i,i<n→-32767≤y (off+i)∧y (off+i)≤32767) w e w':=by
 have Hc:=zh hc;clear hc
 go_enter Tryz.func116,Tryz.ntmps116
 go_wp2
 go_loop [7] (fun q=>∃ k:Nat,k≤n∧q=.int .i64 k∧Hid (∀ i,i<k→-32767≤y (off+i)∧y (off+i)≤32767)) (fun q=>n-(intOf q).toNat)
 case atStart=>exact ⟨0,Nat.zero_le _,rfl,zh (fun i hi=>absurd hi (Nat.not_lt_zero i))⟩
 case round=>
  obtain ⟨k,hk,rfl,hz⟩:=hrel
  by_cases hlt:k<n
  ·have c1:=Hc.out k hlt;obtain ⟨x,hx⟩:∃ x,x=y (off+k):=⟨_,rfl⟩;rw [←hx] at c1;have Hx:=zh hx;clear hx
   go_wp2_with fail
   refine (zAY x _ _ w).mono ?_;rintro e w' ⟨rfl,rfl⟩
   by_cases h0:-32767≤x∧x≤32767
   ·rw [decide_eq_true h0.1,decide_eq_true h0.2,Bool.and_true];have H0:=zh h0;clear h0;go_wp2
    go_round
    case rel=>exact ⟨k+1,by omega,by go_num,zh (fun i hi=>by
     by_cases e:i=k
     ·rw [e,←Hx.out];exact H0.out
     ·exact hz.out i (by omega))⟩
    case measure=>simp [intOf]<;>omega
   ·have hb:(decide (-32767≤x)&&decide (x≤32767))=false:=by
     apply Bool.eq_false_iff.2
     simp only [Bool.and_eq_true,decide_eq_true_eq,ne_eq];exact h0
    rw [hb];have hno:¬ ∀ i,i<n→-32767≤y (off+i)∧y (off+i)≤32767:=fun h=>h0 (by rw [Hx.out];exact h k hlt)
    have Hno:=zh hno;clear hno hb h0;go_wp2;go_ret;exact Tells.no Hno.out (Only.refl _ _)
  ·obtain rfl:k=n:=by omega
   go_wp2;go_ret;exact Tells.yes hz.out (Only.refl _ _)
def zBK (L G b:Nat):Prop:=(b<16∧L/2^(b/4)%2=1)∨(16≤b∧G=2)
def zAJ (y:Nat→Int) (L G b:Nat):Prop:=(¬ zBK L G b→∀ i,i<16→y (50+b*16+i)=0)∧(y 0=1∨16≤b→y (50+b*16)=0)∧∀ i,i<16→-32767≤y (50+b*16+i)∧y (50+b*16+i)≤32767
def zDu (y:Nat→Int) (G k:Nat):Prop:=(k=0∧y 0=1)∨(0<k∧0<G)
def zDB (y:Nat→Int) (G k:Nat):Prop:=(¬ zDu y G k→∀ i,i<16→y (434+k*16+i)=0)∧(0<k→∀ i,i<12→y (434+k*16+4+i)=0)∧∀ i,i<16→-32767≤y (434+k*16+i)∧y (434+k*16+i)≤32767
def zGm (y:Nat→Int):Prop:=∃ L G:Nat,L≤15∧G≤2∧y 48=L+16*G∧(y 0=1→L=0∨L=15)∧(∀ b,b<24→zAJ y L G b)∧∀ k,k<3→zDB y G k
theorem zJ {y:Nat→Int} {L G:Nat} (hL:L≤15) (hG:G≤2) (h48:y 48=L+16*G):zGm y↔(y 0=1→L=0∨L=15)∧(∀ b,b<24→zAJ y L G b)∧∀ k,k<3→zDB y G k:=by
 constructor
 ·rintro ⟨L',G',h1,h2,h3,h4,h5,h6⟩;obtain rfl:L'=L:=by omega
  obtain rfl:G'=G:=by omega
  exact ⟨h4,h5,h6⟩
 ·rintro ⟨h4,h5,h6⟩;exact ⟨L,G,hL,hG,h48,h4,h5,h6⟩
theorem zLG {mb:Nat} {y:Nat→Int} {w:World} (hc:∀ j,j<482→w.cell? ⟨mb,j,none⟩=some (.int .i64 (y j))):
 Calls Tryz.prog 88 #[.pointer (some ⟨mb,0,none⟩)] w fun e w'=>Tells (zGm y) w e w':=by
 have c0:=hc 0 (by decide);have c48:=hc 48 (by decide);have Hc:=zh hc;obtain ⟨kd,hkd⟩:∃ kd,kd=y 0:=⟨_,rfl⟩;obtain ⟨z,hz⟩:∃ z,z=y 48:=⟨_,rfl⟩;rw [←hkd] at c0;rw [←hz] at c48;have Hkd:=zh hkd;have Hz:=zh hz;clear hc hkd hz
 go_enter Tryz.func88,Tryz.ntmps88
 go_wp2_with fail
 go_region
 by_cases hr:0≤z∧z≤47
 ·obtain ⟨L,hL⟩:∃ L:Nat,z%16=L:=⟨(z%16).toNat,by omega⟩;obtain ⟨G,hG⟩:∃ G:Nat,z/16=G:=⟨(z/16).toNat,by omega⟩;have hi16:bits .and .i64 z 15=z%16:=zKM z;have HL:Hid (L≤15):=zh (by omega);have HG:Hid (G≤2):=zh (by omega);have hL15:L≤15:=by omega
  have hG2b:G≤2:=by omega
  have HzL:Hid (y 48=L+16*G):=zh (by rw [←Hz.out];omega);have hd1:decide (0≤z)=true:=decide_eq_true hr.1;have hd2:decide (z≤47)=true:=decide_eq_true hr.2;obtain ⟨gi,hgi⟩:∃ gi:Int,gi=G:=⟨_,rfl⟩;have Hgi:=zh hgi;rw [hL,hG,←hgi];have HO0:Hid (Only [] w w.drew):=zh (Only.refl [] w).drew;have c0d:w.drew.cell? ⟨mb,0,none⟩=some (.int .i64 kd):=c0;have c48d:w.drew.cell? ⟨mb,48,none⟩=some (.int .i64 z):=c48;clear hL hG hi16 hgi;generalize w.drew=wd at*
  go_wp2_with fail
  refine (zAY z _ _ wd).mono ?_;rintro e w' ⟨rfl,rfl⟩;rw [hd1,hd2,Bool.and_true];clear hd1 hd2;have HCW:Hid (∀ wr,Only [] w wr→∀ j,j<482→wr.cell? ⟨mb,j,none⟩=some (.int .i64 (y j))):=zh (fun wr ho j hj=>ho.cell (Hc.out j hj) (by simp))
  by_cases hbad:kd=1∧L≠0∧L≠15
  ·obtain ⟨hk1,hl0,hl15⟩:=hbad;have hno:¬ ((y 0=1→L=0∨L=15)∧(∀ b,b<24→zAJ y L G b)∧∀ k,k<3→zDB y G k):=fun h=>by
    have:=h.1 (by rw [←Hkd.out,hk1]);omega
   have f1:((L:Int) != 0)=true:=by simp;omega
   have f2:((L:Int) != 15)=true:=by simp;omega
   subst hk1;have Hno:=zh hno;clear hno;go_wp2;go_ret;exact Tells.no (fun h=>Hno.out ((zJ HL.out HG.out HzL.out).1 h)) HO0.out
  ·have hLk:Hid (y 0=1→L=0∨L=15):=zh (fun h=>by rw [←Hkd.out] at h;omega);have hor:(kd==1)=false∨((kd==1)=true∧((L:Int) != 0)=false)∨((kd==1)=true∧((L:Int) != 0)=true∧((L:Int) != 15)=false):=by
    by_cases h1:kd=1
    ·by_cases h2:L=0
     ·exact .inr (.inl ⟨by simp [h1],by simp [h2]⟩)
     ·have h3:L=15:=by omega
      exact .inr (.inr ⟨by simp [h1],by simp [h2],by simp [h3]⟩)
    ·exact .inl (by simpa using h1)
   clear hbad
   rcases hor with e1|⟨e1,e2⟩|⟨e1,e2,e3⟩
   all_goals
    go_wp2;clear e1
    try clear e2
    try clear e3
    clear c0d c48d
    go_loopw [42] (fun q wr=>∃ b:Nat,b≤24∧q=.int .i64 b∧Hid (∀ b',b'<b→zAJ y L G b')∧Only [] w wr) (fun q _=>24-(intOf q).toNat)
    case atStart=>exact ⟨0,by omega,rfl,zh (fun b hb=>absurd hb (Nat.not_lt_zero b)),HO0.out⟩
    case round=>
     obtain ⟨b,hb24,rfl,hall,ho⟩:=hrel;have HO:=zh ho;have hcw:=HCW.out wr ho;clear ho
     by_cases hlt:b<24
     ·have Hcb:Hid (∀ i,i<16→wr.cell? ⟨mb,50+b*16+i,none⟩=some (.int .i64 (y (50+b*16+i)))):=zh (fun i hi=>hcw _ (by omega));have c0r:wr.cell? ⟨mb,0,none⟩=some (.int .i64 kd):=by rw [hcw 0 (by decide),Hkd.out]
      have cb0:=hcw (50+b*16) (by omega);obtain ⟨v0,hv0⟩:∃ v0,v0=y (50+b*16):=⟨_,rfl⟩;rw [←hv0] at cb0;have Hv0:=zh hv0;replace HCW:Hid (∀ wr,Only [] w wr→∀ i,i<16→wr.cell? ⟨mb,50+b*16+i,none⟩=some (.int .i64 (y (50+b*16+i)))):=zh (fun wr ho i hi=>HCW.out wr ho _ (by omega));clear hcw hv0
      by_cases h16:b<16
      ·have hcast:(L:Int)/2^(b/4)%2=((L/2^(b/4)%2:Nat):Int):=by push_cast;rfl
       rcases Nat.mod_two_eq_zero_or_one (L/2^(b/4)) with hbit|hbit
       ·have hbi:((L:Int)/2^(b/4)%2==1)=false:=by rw [hcast,hbit];rfl
        have Hhas:Hid (¬ zBK L G b):=zh (by unfold zBK;omega);clear hcast hbit
        by_cases hk1:kd=1
        ·subst hk1;have Hchk:Hid (y 0=1∨16≤b):=zh (.inl Hkd.out.symm)
         go_wp2_with fail
         refine (zC2 (y:=y) (off:=50+b*16) (n:=16) Hcb.out (by decide)).mono ?_;rintro e wz ⟨bz,rfl,hbz,hoz⟩;have HO2:=zh (HO.out.trans hoz);have Hbz:=zh hbz;have cz0:=hoz.cell c0r (by simp);have czb:=hoz.cell cb0 (by simp);clear hoz hbz
         cases bz with
         |false=>
          have hno:¬ ((y 0=1→L=0∨L=15)∧(∀ b,b<24→zAJ y L G b)∧∀ k,k<3→zDB y G k):=fun h=>by
           have h1:=(h.2.1 b hlt).1 Hhas.out;have h2:=Hbz.out.2 h1
           cases h2
          have Hno:=zh hno;clear hno;go_wp2;go_ret;exact Tells.no (fun h=>Hno.out ((zJ HL.out HG.out HzL.out).1 h)) HO2.out
         |true=>
          have hZ:Hid (¬ zBK L G b→∀ i,i<16→y (50+b*16+i)=0):=zh (fun _=>Hbz.out.1 rfl)
          by_cases h0:v0=0
          ·have hV:Hid (y 0=1∨16≤b→y (50+b*16)=0):=zh (fun _=>by rw [←Hv0.out,h0]);subst h0
           go_wp2_with fail
           refine (zAq (y:=y) (off:=50+b*16) (n:=16) (fun i hi=>(HCW.out wz HO2.out) i hi) (by decide)).mono ?_;rintro e wy ⟨bs,rfl,hbs,hos⟩;have HO3:=zh (HO2.out.trans hos);have Hbs:=zh hbs;clear hos hbs
           cases bs with
           |false=>
            have hno:¬ ((y 0=1→L=0∨L=15)∧(∀ b,b<24→zAJ y L G b)∧∀ k,k<3→zDB y G k):=fun h=>by
             have h2:=Hbs.out.2 (h.2.1 b hlt).2.2
             cases h2
            have Hno:=zh hno;clear hno;go_wp2;go_ret;exact Tells.no (fun h=>Hno.out ((zJ HL.out HG.out HzL.out).1 h)) HO3.out
           |true=>
            have hok:Hid (zAJ y L G b):=zh ⟨hZ.out,hV.out,Hbs.out.1 rfl⟩;go_wp2
            go_roundw
            case rel=>exact ⟨b+1,by omega,by go_num,zh (fun b' hb'=>by
             by_cases e:b'=b
             ·rw [e];exact hok.out
             ·exact hall.out b' (by omega)),HO3.out⟩
            case measure=>simp [intOf]<;>omega
          ·have hvb:(v0 != 0)=true:=by simp [h0]
           have hno:¬ ((y 0=1→L=0∨L=15)∧(∀ b,b<24→zAJ y L G b)∧∀ k,k<3→zDB y G k):=fun h=>h0 (by rw [Hv0.out];exact (h.2.1 b hlt).2.1 Hchk.out)
           try clear Hbz
           have Hno:=zh hno;clear hno;go_wp2;go_ret;exact Tells.no (fun h=>Hno.out ((zJ HL.out HG.out HzL.out).1 h)) HO2.out
        ·have ek:(kd==1)=false:=by simpa using hk1
         have Hchk:Hid (¬ (y 0=1∨16≤b)):=zh (by rw [←Hkd.out];omega);clear hk1
         go_wp2_with fail
         refine (zC2 (y:=y) (off:=50+b*16) (n:=16) Hcb.out (by decide)).mono ?_;rintro e wz ⟨bz,rfl,hbz,hoz⟩;have HO2:=zh (HO.out.trans hoz);have Hbz:=zh hbz;have cz0:=hoz.cell c0r (by simp);have czb:=hoz.cell cb0 (by simp);clear hoz hbz
         cases bz with
         |false=>
          have hno:¬ ((y 0=1→L=0∨L=15)∧(∀ b,b<24→zAJ y L G b)∧∀ k,k<3→zDB y G k):=fun h=>by
           have h1:=(h.2.1 b hlt).1 Hhas.out;have h2:=Hbz.out.2 h1
           cases h2
          have Hno:=zh hno;clear hno;go_wp2;go_ret;exact Tells.no (fun h=>Hno.out ((zJ HL.out HG.out HzL.out).1 h)) HO2.out
         |true=>
          have hZ:Hid (¬ zBK L G b→∀ i,i<16→y (50+b*16+i)=0):=zh (fun _=>Hbz.out.1 rfl);have hV:Hid (y 0=1∨16≤b→y (50+b*16)=0):=zh (fun h=>absurd h Hchk.out)
          go_wp2_with fail
          refine (zAq (y:=y) (off:=50+b*16) (n:=16) (fun i hi=>(HCW.out wz HO2.out) i hi) (by decide)).mono ?_;rintro e wy ⟨bs,rfl,hbs,hos⟩;have HO3:=zh (HO2.out.trans hos);have Hbs:=zh hbs;clear hos hbs
          cases bs with
          |false=>
           have hno:¬ ((y 0=1→L=0∨L=15)∧(∀ b,b<24→zAJ y L G b)∧∀ k,k<3→zDB y G k):=fun h=>by
            have h2:=Hbs.out.2 (h.2.1 b hlt).2.2
            cases h2
           have Hno:=zh hno;clear hno;go_wp2;go_ret;exact Tells.no (fun h=>Hno.out ((zJ HL.out HG.out HzL.out).1 h)) HO3.out
          |true=>
           have hok:Hid (zAJ y L G b):=zh ⟨hZ.out,hV.out,Hbs.out.1 rfl⟩;go_wp2
           go_roundw
           case rel=>exact ⟨b+1,by omega,by go_num,zh (fun b' hb'=>by
            by_cases e:b'=b
            ·rw [e];exact hok.out
            ·exact hall.out b' (by omega)),HO3.out⟩
           case measure=>simp [intOf]<;>omega
       ·have hbi:((L:Int)/2^(b/4)%2==1)=true:=by rw [hcast,hbit];rfl
        have Hhas:Hid (zBK L G b):=zh (.inl ⟨h16,hbit⟩);clear hcast hbit
        by_cases hk1:kd=1
        ·subst hk1;have Hchk:Hid (y 0=1∨16≤b):=zh (.inl Hkd.out.symm);have hZ:Hid (¬ zBK L G b→∀ i,i<16→y (50+b*16+i)=0):=zh (fun h=>absurd Hhas.out h)
         by_cases h0:v0=0
         ·have hV:Hid (y 0=1∨16≤b→y (50+b*16)=0):=zh (fun _=>by rw [←Hv0.out,h0]);subst h0
          go_wp2_with fail
          refine (zAq (y:=y) (off:=50+b*16) (n:=16) (fun i hi=>(HCW.out wr HO.out) i hi) (by decide)).mono ?_;rintro e wy ⟨bs,rfl,hbs,hos⟩;have HO3:=zh (HO.out.trans hos);have Hbs:=zh hbs;clear hos hbs
          cases bs with
          |false=>
           have hno:¬ ((y 0=1→L=0∨L=15)∧(∀ b,b<24→zAJ y L G b)∧∀ k,k<3→zDB y G k):=fun h=>by
            have h2:=Hbs.out.2 (h.2.1 b hlt).2.2
            cases h2
           have Hno:=zh hno;clear hno;go_wp2;go_ret;exact Tells.no (fun h=>Hno.out ((zJ HL.out HG.out HzL.out).1 h)) HO3.out
          |true=>
           have hok:Hid (zAJ y L G b):=zh ⟨hZ.out,hV.out,Hbs.out.1 rfl⟩;go_wp2
           go_roundw
           case rel=>exact ⟨b+1,by omega,by go_num,zh (fun b' hb'=>by
            by_cases e:b'=b
            ·rw [e];exact hok.out
            ·exact hall.out b' (by omega)),HO3.out⟩
           case measure=>simp [intOf]<;>omega
         ·have hvb:(v0 != 0)=true:=by simp [h0]
          have hno:¬ ((y 0=1→L=0∨L=15)∧(∀ b,b<24→zAJ y L G b)∧∀ k,k<3→zDB y G k):=fun h=>h0 (by rw [Hv0.out];exact (h.2.1 b hlt).2.1 Hchk.out)
          try clear Hbz
          have Hno:=zh hno;clear hno;go_wp2;go_ret;exact Tells.no (fun h=>Hno.out ((zJ HL.out HG.out HzL.out).1 h)) HO.out
        ·have ek:(kd==1)=false:=by simpa using hk1
         have Hchk:Hid (¬ (y 0=1∨16≤b)):=zh (by rw [←Hkd.out];omega);clear hk1;have hZ:Hid (¬ zBK L G b→∀ i,i<16→y (50+b*16+i)=0):=zh (fun h=>absurd Hhas.out h);have hV:Hid (y 0=1∨16≤b→y (50+b*16)=0):=zh (fun h=>absurd h Hchk.out)
         go_wp2_with fail
         refine (zAq (y:=y) (off:=50+b*16) (n:=16) (fun i hi=>(HCW.out wr HO.out) i hi) (by decide)).mono ?_;rintro e wy ⟨bs,rfl,hbs,hos⟩;have HO3:=zh (HO.out.trans hos);have Hbs:=zh hbs;clear hos hbs
         cases bs with
         |false=>
          have hno:¬ ((y 0=1→L=0∨L=15)∧(∀ b,b<24→zAJ y L G b)∧∀ k,k<3→zDB y G k):=fun h=>by
           have h2:=Hbs.out.2 (h.2.1 b hlt).2.2
           cases h2
          have Hno:=zh hno;clear hno;go_wp2;go_ret;exact Tells.no (fun h=>Hno.out ((zJ HL.out HG.out HzL.out).1 h)) HO3.out
         |true=>
          have hok:Hid (zAJ y L G b):=zh ⟨hZ.out,hV.out,Hbs.out.1 rfl⟩;go_wp2
          go_roundw
          case rel=>exact ⟨b+1,by omega,by go_num,zh (fun b' hb'=>by
           by_cases e:b'=b
           ·rw [e];exact hok.out
           ·exact hall.out b' (by omega)),HO3.out⟩
          case measure=>simp [intOf]<;>omega
      ·have Hchk:Hid (y 0=1∨16≤b):=zh (.inr (by omega));have hkor:(kd==1)=true∨(kd==1)=false:=by cases (kd==1)<;>simp
       by_cases hG2:G=2
       ·have hgi:(gi==2)=true:=by rw [Hgi.out,hG2];rfl
        have Hhas:Hid (zBK L G b):=zh (.inr ⟨by omega,hG2⟩);clear hG2
        rcases hkor with ek|ek
        all_goals
         have hZ:Hid (¬ zBK L G b→∀ i,i<16→y (50+b*16+i)=0):=zh (fun h=>absurd Hhas.out h)
         by_cases h0:v0=0
         ·have hV:Hid (y 0=1∨16≤b→y (50+b*16)=0):=zh (fun _=>by rw [←Hv0.out,h0]);subst h0
          go_wp2_with fail
          refine (zAq (y:=y) (off:=50+b*16) (n:=16) (fun i hi=>(HCW.out wr HO.out) i hi) (by decide)).mono ?_;rintro e wy ⟨bs,rfl,hbs,hos⟩;have HO3:=zh (HO.out.trans hos);have Hbs:=zh hbs;clear hos hbs
          cases bs with
          |false=>
           have hno:¬ ((y 0=1→L=0∨L=15)∧(∀ b,b<24→zAJ y L G b)∧∀ k,k<3→zDB y G k):=fun h=>by
            have h2:=Hbs.out.2 (h.2.1 b hlt).2.2
            cases h2
           have Hno:=zh hno;clear hno;go_wp2;go_ret;exact Tells.no (fun h=>Hno.out ((zJ HL.out HG.out HzL.out).1 h)) HO3.out
          |true=>
           have hok:Hid (zAJ y L G b):=zh ⟨hZ.out,hV.out,Hbs.out.1 rfl⟩;go_wp2
           go_roundw
           case rel=>exact ⟨b+1,by omega,by go_num,zh (fun b' hb'=>by
            by_cases e:b'=b
            ·rw [e];exact hok.out
            ·exact hall.out b' (by omega)),HO3.out⟩
           case measure=>simp [intOf]<;>omega
         ·have hvb:(v0 != 0)=true:=by simp [h0]
          have hno:¬ ((y 0=1→L=0∨L=15)∧(∀ b,b<24→zAJ y L G b)∧∀ k,k<3→zDB y G k):=fun h=>h0 (by rw [Hv0.out];exact (h.2.1 b hlt).2.1 Hchk.out)
          try clear Hbz
          have Hno:=zh hno;clear hno;go_wp2;go_ret;exact Tells.no (fun h=>Hno.out ((zJ HL.out HG.out HzL.out).1 h)) HO.out
       ·have hgi:(gi==2)=false:=by rw [Hgi.out];simp;omega
        have Hhas:Hid (¬ zBK L G b):=zh (by unfold zBK;omega);clear hG2
        rcases hkor with ek|ek
        all_goals
         go_wp2_with fail
         refine (zC2 (y:=y) (off:=50+b*16) (n:=16) Hcb.out (by decide)).mono ?_;rintro e wz ⟨bz,rfl,hbz,hoz⟩;have HO2:=zh (HO.out.trans hoz);have Hbz:=zh hbz;have cz0:=hoz.cell c0r (by simp);have czb:=hoz.cell cb0 (by simp);clear hoz hbz
         cases bz with
         |false=>
          have hno:¬ ((y 0=1→L=0∨L=15)∧(∀ b,b<24→zAJ y L G b)∧∀ k,k<3→zDB y G k):=fun h=>by
           have h1:=(h.2.1 b hlt).1 Hhas.out;have h2:=Hbz.out.2 h1
           cases h2
          have Hno:=zh hno;clear hno;go_wp2;go_ret;exact Tells.no (fun h=>Hno.out ((zJ HL.out HG.out HzL.out).1 h)) HO2.out
         |true=>
          have hZ:Hid (¬ zBK L G b→∀ i,i<16→y (50+b*16+i)=0):=zh (fun _=>Hbz.out.1 rfl)
          by_cases h0:v0=0
          ·have hV:Hid (y 0=1∨16≤b→y (50+b*16)=0):=zh (fun _=>by rw [←Hv0.out,h0]);subst h0
           go_wp2_with fail
           refine (zAq (y:=y) (off:=50+b*16) (n:=16) (fun i hi=>(HCW.out wz HO2.out) i hi) (by decide)).mono ?_;rintro e wy ⟨bs,rfl,hbs,hos⟩;have HO3:=zh (HO2.out.trans hos);have Hbs:=zh hbs;clear hos hbs
           cases bs with
           |false=>
            have hno:¬ ((y 0=1→L=0∨L=15)∧(∀ b,b<24→zAJ y L G b)∧∀ k,k<3→zDB y G k):=fun h=>by
             have h2:=Hbs.out.2 (h.2.1 b hlt).2.2
             cases h2
            have Hno:=zh hno;clear hno;go_wp2;go_ret;exact Tells.no (fun h=>Hno.out ((zJ HL.out HG.out HzL.out).1 h)) HO3.out
           |true=>
            have hok:Hid (zAJ y L G b):=zh ⟨hZ.out,hV.out,Hbs.out.1 rfl⟩;go_wp2
            go_roundw
            case rel=>exact ⟨b+1,by omega,by go_num,zh (fun b' hb'=>by
             by_cases e:b'=b
             ·rw [e];exact hok.out
             ·exact hall.out b' (by omega)),HO3.out⟩
            case measure=>simp [intOf]<;>omega
          ·have hvb:(v0 != 0)=true:=by simp [h0]
           have hno:¬ ((y 0=1→L=0∨L=15)∧(∀ b,b<24→zAJ y L G b)∧∀ k,k<3→zDB y G k):=fun h=>h0 (by rw [Hv0.out];exact (h.2.1 b hlt).2.1 Hchk.out)
           try clear Hbz
           have Hno:=zh hno;clear hno;go_wp2;go_ret;exact Tells.no (fun h=>Hno.out ((zJ HL.out HG.out HzL.out).1 h)) HO2.out
     ·have hb24':24≤b:=by omega
      have hall2:Hid (∀ b,b<24→zAJ y L G b):=zh (fun b' h=>hall.out b' (by omega));have HO:=zh HO.out;clear hcw;go_wp2
      go_loopw [99] (fun q wr=>∃ k:Nat,k≤3∧q=.int .i64 k∧Hid (∀ k',k'<k→zDB y G k')∧Only [] w wr) (fun q _=>3-(intOf q).toNat)
      case atStart=>exact ⟨0,by omega,rfl,zh (fun b hb=>absurd hb (Nat.not_lt_zero b)),HO.out⟩
      case round=>
       obtain ⟨k,hk3,rfl,hallD,ho⟩:=hrel;have HO:=zh ho;have hcw:=HCW.out wr ho;clear ho
       by_cases hkt:k<3
       ·have Hcb:Hid (∀ i,i<16→wr.cell? ⟨mb,434+k*16+i,none⟩=some (.int .i64 (y (434+k*16+i)))):=zh (fun i hi=>hcw _ (by omega));have c0r:wr.cell? ⟨mb,0,none⟩=some (.int .i64 kd):=by rw [hcw 0 (by decide),Hkd.out]
        replace HCW:Hid (∀ wr,Only [] w wr→∀ i,i<16→wr.cell? ⟨mb,434+k*16+i,none⟩=some (.int .i64 (y (434+k*16+i)))):=zh (fun wr ho i hi=>HCW.out wr ho _ (by omega));clear hcw
        by_cases hk00:k=0
        ·have Hk0:Hid (¬ 0<k):=zh (by omega);have ek0:((k:Int)==0)=true:=by simp [hk00]
         have hki:¬ (0:Int)<k:=by omega
         have Hk00:=zh hk00;clear hk00
         by_cases hk1:kd=1
         ·subst hk1;have Hhas:Hid (zDu y G k):=zh (.inl ⟨Hk00.out,Hkd.out.symm⟩);have hZ:Hid (¬ zDu y G k→∀ i,i<16→y (434+k*16+i)=0):=zh (fun h=>absurd Hhas.out h);have hV:Hid (0<k→∀ i,i<12→y (434+k*16+4+i)=0):=zh (fun h=>absurd h Hk0.out)
          go_wp2_with fail
          refine (zAq (y:=y) (off:=434+k*16) (n:=16) (fun i hi=>(HCW.out wr HO.out) i hi) (by decide)).mono ?_;rintro e wy ⟨bs,rfl,hbs,hos⟩;have HO3:=zh (HO.out.trans hos);have Hbs:=zh hbs;clear hos hbs
          cases bs with
          |false=>
           have hno:¬ ((y 0=1→L=0∨L=15)∧(∀ b,b<24→zAJ y L G b)∧∀ k,k<3→zDB y G k):=fun h=>by
            have h2:=Hbs.out.2 (h.2.2 k hkt).2.2
            cases h2
           have Hno:=zh hno;clear hno;go_wp2;go_ret;exact Tells.no (fun h=>Hno.out ((zJ HL.out HG.out HzL.out).1 h)) HO3.out
          |true=>
           have hok:Hid (zDB y G k):=zh ⟨hZ.out,hV.out,Hbs.out.1 rfl⟩;go_wp2
           go_roundw
           case rel=>exact ⟨k+1,by omega,by go_num,zh (fun b' hb'=>by
            by_cases e:b'=k
            ·rw [e];exact hok.out
            ·exact hallD.out b' (by omega)),HO3.out⟩
           case measure=>simp [intOf]<;>omega
         ·have ek:(kd==1)=false:=by simpa using hk1
          have Hhas:Hid (¬ zDu y G k):=zh (by unfold zDu;rw [←Hkd.out];have:=Hk0.out;omega);clear hk1
          go_wp2_with fail
          refine (zC2 (y:=y) (off:=434+k*16) (n:=16) Hcb.out (by decide)).mono ?_;rintro e wz ⟨bz,rfl,hbz,hoz⟩;have HO2:=zh (HO.out.trans hoz);have Hbz:=zh hbz;clear hoz hbz
          cases bz with
          |false=>
           have hno:¬ ((y 0=1→L=0∨L=15)∧(∀ b,b<24→zAJ y L G b)∧∀ k,k<3→zDB y G k):=fun h=>by
            have h2:=Hbz.out.2 ((h.2.2 k hkt).1 Hhas.out)
            cases h2
           have Hno:=zh hno;clear hno;go_wp2;go_ret;exact Tells.no (fun h=>Hno.out ((zJ HL.out HG.out HzL.out).1 h)) HO2.out
          |true=>
           have hZ:Hid (¬ zDu y G k→∀ i,i<16→y (434+k*16+i)=0):=zh (fun _=>Hbz.out.1 rfl);have hV:Hid (0<k→∀ i,i<12→y (434+k*16+4+i)=0):=zh (fun h=>absurd h Hk0.out)
           go_wp2_with fail
           refine (zAq (y:=y) (off:=434+k*16) (n:=16) (fun i hi=>(HCW.out wz HO2.out) i hi) (by decide)).mono ?_;rintro e wy ⟨bs,rfl,hbs,hos⟩;have HO3:=zh (HO2.out.trans hos);have Hbs:=zh hbs;clear hos hbs
           cases bs with
           |false=>
            have hno:¬ ((y 0=1→L=0∨L=15)∧(∀ b,b<24→zAJ y L G b)∧∀ k,k<3→zDB y G k):=fun h=>by
             have h2:=Hbs.out.2 (h.2.2 k hkt).2.2
             cases h2
            have Hno:=zh hno;clear hno;go_wp2;go_ret;exact Tells.no (fun h=>Hno.out ((zJ HL.out HG.out HzL.out).1 h)) HO3.out
           |true=>
            have hok:Hid (zDB y G k):=zh ⟨hZ.out,hV.out,Hbs.out.1 rfl⟩;go_wp2
            go_roundw
            case rel=>exact ⟨k+1,by omega,by go_num,zh (fun b' hb'=>by
             by_cases e:b'=k
             ·rw [e];exact hok.out
             ·exact hallD.out b' (by omega)),HO3.out⟩
            case measure=>simp [intOf]<;>omega
        ·have Hk0:Hid (0<k):=zh (by omega);have ek0:((k:Int)==0)=false:=by simp;omega
         have hki:(0:Int)<k:=by omega
         by_cases hG0:0<G
         ·have hgi:(0:Int)<gi:=by rw [Hgi.out];omega
          have Hhas:Hid (zDu y G k):=zh (.inr ⟨by omega,hG0⟩);clear hG0;have hZ:Hid (¬ zDu y G k→∀ i,i<16→y (434+k*16+i)=0):=zh (fun h=>absurd Hhas.out h)
          go_wp2_with fail
          refine (zC2 (y:=y) (off:=434+k*16+4) (n:=12) (fun i hi=>by have:=HCW.out wr HO.out (4+i) (by omega);rw [←Nat.add_assoc] at this;exact this) (by decide)).mono ?_;rintro e wv ⟨bv,rfl,hbv,hov⟩;have HO4:=zh (HO.out.trans hov);have Hbv:=zh hbv;clear hov hbv
          cases bv with
          |false=>
           have hno:¬ ((y 0=1→L=0∨L=15)∧(∀ b,b<24→zAJ y L G b)∧∀ k,k<3→zDB y G k):=fun h=>by
            have h2:=Hbv.out.2 ((h.2.2 k hkt).2.1 Hk0.out)
            cases h2
           have Hno:=zh hno;clear hno;go_wp2;go_ret;exact Tells.no (fun h=>Hno.out ((zJ HL.out HG.out HzL.out).1 h)) HO4.out
          |true=>
           have hV:Hid (0<k→∀ i,i<12→y (434+k*16+4+i)=0):=zh (fun _=>Hbv.out.1 rfl)
           go_wp2_with fail
           refine (zAq (y:=y) (off:=434+k*16) (n:=16) (fun i hi=>(HCW.out wv HO4.out) i hi) (by decide)).mono ?_;rintro e wy ⟨bs,rfl,hbs,hos⟩;have HO3:=zh (HO4.out.trans hos);have Hbs:=zh hbs;clear hos hbs
           cases bs with
           |false=>
            have hno:¬ ((y 0=1→L=0∨L=15)∧(∀ b,b<24→zAJ y L G b)∧∀ k,k<3→zDB y G k):=fun h=>by
             have h2:=Hbs.out.2 (h.2.2 k hkt).2.2
             cases h2
            have Hno:=zh hno;clear hno;go_wp2;go_ret;exact Tells.no (fun h=>Hno.out ((zJ HL.out HG.out HzL.out).1 h)) HO3.out
           |true=>
            have hok:Hid (zDB y G k):=zh ⟨hZ.out,hV.out,Hbs.out.1 rfl⟩;go_wp2
            go_roundw
            case rel=>exact ⟨k+1,by omega,by go_num,zh (fun b' hb'=>by
             by_cases e:b'=k
             ·rw [e];exact hok.out
             ·exact hallD.out b' (by omega)),HO3.out⟩
            case measure=>simp [intOf]<;>omega
         ·have hgi:¬ (0:Int)<gi:=by rw [Hgi.out];omega
          have Hhas:Hid (¬ zDu y G k):=zh (by unfold zDu;omega);clear hG0
          go_wp2_with fail
          refine (zC2 (y:=y) (off:=434+k*16) (n:=16) Hcb.out (by decide)).mono ?_;rintro e wz ⟨bz,rfl,hbz,hoz⟩;have HO2:=zh (HO.out.trans hoz);have Hbz:=zh hbz;clear hoz hbz
          cases bz with
          |false=>
           have hno:¬ ((y 0=1→L=0∨L=15)∧(∀ b,b<24→zAJ y L G b)∧∀ k,k<3→zDB y G k):=fun h=>by
            have h2:=Hbz.out.2 ((h.2.2 k hkt).1 Hhas.out)
            cases h2
           have Hno:=zh hno;clear hno;go_wp2;go_ret;exact Tells.no (fun h=>Hno.out ((zJ HL.out HG.out HzL.out).1 h)) HO2.out
          |true=>
           have hZ:Hid (¬ zDu y G k→∀ i,i<16→y (434+k*16+i)=0):=zh (fun _=>Hbz.out.1 rfl)
           go_wp2_with fail
           refine (zC2 (y:=y) (off:=434+k*16+4) (n:=12) (fun i hi=>by have:=HCW.out wz HO2.out (4+i) (by omega);rw [←Nat.add_assoc] at this;exact this) (by decide)).mono ?_;rintro e wv ⟨bv,rfl,hbv,hov⟩;have HO4:=zh (HO2.out.trans hov);have Hbv:=zh hbv;clear hov hbv
           cases bv with
           |false=>
            have hno:¬ ((y 0=1→L=0∨L=15)∧(∀ b,b<24→zAJ y L G b)∧∀ k,k<3→zDB y G k):=fun h=>by
             have h2:=Hbv.out.2 ((h.2.2 k hkt).2.1 Hk0.out)
             cases h2
            have Hno:=zh hno;clear hno;go_wp2;go_ret;exact Tells.no (fun h=>Hno.out ((zJ HL.out HG.out HzL.out).1 h)) HO4.out
           |true=>
            have hV:Hid (0<k→∀ i,i<12→y (434+k*16+4+i)=0):=zh (fun _=>Hbv.out.1 rfl)
            go_wp2_with fail
            refine (zAq (y:=y) (off:=434+k*16) (n:=16) (fun i hi=>(HCW.out wv HO4.out) i hi) (by decide)).mono ?_;rintro e wy ⟨bs,rfl,hbs,hos⟩;have HO3:=zh (HO4.out.trans hos);have Hbs:=zh hbs;clear hos hbs
            cases bs with
            |false=>
             have hno:¬ ((y 0=1→L=0∨L=15)∧(∀ b,b<24→zAJ y L G b)∧∀ k,k<3→zDB y G k):=fun h=>by
              have h2:=Hbs.out.2 (h.2.2 k hkt).2.2
              cases h2
             have Hno:=zh hno;clear hno;go_wp2;go_ret;exact Tells.no (fun h=>Hno.out ((zJ HL.out HG.out HzL.out).1 h)) HO3.out
            |true=>
             have hok:Hid (zDB y G k):=zh ⟨hZ.out,hV.out,Hbs.out.1 rfl⟩;go_wp2
             go_roundw
             case rel=>exact ⟨k+1,by omega,by go_num,zh (fun b' hb'=>by
              by_cases e:b'=k
              ·rw [e];exact hok.out
              ·exact hallD.out b' (by omega)),HO3.out⟩
             case measure=>simp [intOf]<;>omega
       ·have hk3':3≤k:=by omega
        have hall3:Hid (∀ k,k<3→zDB y G k):=zh (fun b' h=>hallD.out b' (by omega));clear hcw;go_wp2;go_ret;exact Tells.yes ((zJ HL.out HG.out HzL.out).2 ⟨hLk.out,hall2.out,hall3.out⟩) HO.out
 ·have Hno:Hid (¬ zGm y):=zh (by
   rintro ⟨L,G,h1,h2,h3,-⟩;rw [←Hz.out] at h3;omega)
  have HO0:Hid (Only [] w w.drew):=zh (Only.refl [] w).drew;have c0d:w.drew.cell? ⟨mb,0,none⟩=some (.int .i64 kd):=c0;have c48d:w.drew.cell? ⟨mb,48,none⟩=some (.int .i64 z):=c48;have hd:(decide (0≤z)&&decide (z≤47))=false:=by
   apply Bool.eq_false_iff.2
   simp only [Bool.and_eq_true,decide_eq_true_eq,ne_eq];exact hr
  generalize w.drew=wd at*;generalize z%16=z1 at*;generalize z/16=z2 at*
  go_wp2_with fail
  refine (zAY z _ _ wd).mono ?_;rintro e w' ⟨rfl,rfl⟩;rw [hd];clear hd hr;go_wp2;go_ret;exact Tells.no Hno.out HO0.out
def zL4 (t k:Int):Prop:=((k=3∨k=4)∧(t=0∨t=1))∨(k=5∧t=1)∨k=0∨k=1∨k=2
theorem zNP (t k:Int) (ht:t=0∨t=1∨t=2) (w:World):Calls Tryz.prog 85 #[.int .i64 t,.int .i64 k] w fun e w'=>Tells (zL4 t k) w e w':=by
 by_cases hk:k=3
 ·subst hk
  rcases ht with rfl|rfl|rfl
  ·go_enter Tryz.func85,Tryz.ntmps85
   go_wp2;go_ret;exact Tells.yes (.inl ⟨.inl rfl,.inl rfl⟩) (Only.refl _ _)
  ·go_enter Tryz.func85,Tryz.ntmps85
   go_wp2;go_ret;exact Tells.yes (.inl ⟨.inl rfl,.inr rfl⟩) (Only.refl _ _)
  ·go_enter Tryz.func85,Tryz.ntmps85
   go_wp2;go_ret;exact Tells.no (by unfold zL4;omega) (Only.refl _ _)
 ·have e3:(k==3)=false:=by simpa using hk
  obtain ⟨off,hoff⟩:∃ off:Nat,(t=0∧off=1)∨(t=1∧off=0)∨(t=2∧off=2):=by
   rcases ht with rfl|rfl|rfl
   ·exact ⟨1,.inl ⟨rfl,rfl⟩⟩
   ·exact ⟨0,.inr (.inl ⟨rfl,rfl⟩)⟩
   ·exact ⟨2,.inr (.inr ⟨rfl,rfl⟩)⟩
  have ho2:off≤2:=by omega
  have ht2:0≤t∧t≤2:=by omega
  have hall:Hid ((∀ j,j<5-off→kAll.getD (off+j) 0≠k)→¬ zL4 t k):=zh (by
   intro h1 h2;have a0:=fun hh=>h1 0 hh
   have a1:=fun hh=>h1 1 hh
   have a2:=fun hh=>h1 2 hh
   have a3:=fun hh=>h1 3 hh
   have a4:=fun hh=>h1 4 hh
   unfold zL4 at h2
   rcases hoff with ⟨rfl,rfl⟩|⟨rfl,rfl⟩|⟨rfl,rfl⟩<;>simp [kAll] at a0 a1 a2 a3 a4<;>omega)
  have hyes:Hid (∀ j,j<5-off→kAll.getD (off+j) 0=k→zL4 t k):=zh (by
   intro j hj h2;unfold zL4
   rcases hoff with ⟨rfl,rfl⟩|⟨rfl,rfl⟩|⟨rfl,rfl⟩
   ·obtain rfl|rfl|rfl|rfl:j=0∨j=1∨j=2∨j=3:=by omega
    all_goals (simp [kAll] at h2;subst h2;simp)
   ·obtain rfl|rfl|rfl|rfl|rfl:j=0∨j=1∨j=2∨j=3∨j=4:=by omega
    all_goals (simp [kAll] at h2;subst h2;simp)
   ·obtain rfl|rfl|rfl:j=0∨j=1∨j=2:=by omega
    all_goals (simp [kAll] at h2;subst h2;simp))
  have hkd:=zIG t off hoff w;have HKD:=zh hkd;have Hoff:=zh hoff;clear hkd hoff ht hk
  go_enter Tryz.func85,Tryz.ntmps85
  go_wp2_with fail
  refine HKD.out.mono ?_;rintro e w1 ⟨rfl,h1,h2,h3⟩;have Hc:Hid (∀ j,j<5-off→w1.cell? ⟨w.heap.size,off+j,none⟩=some (.int .i64 (kAll.getD (off+j) 0))):=zh (fun j hj=>by
   rw [zA h1];have:off+j<kAll.length:=by show off+j<5;omega
   simp [List.getD,List.getElem?_eq_getElem this])
  have HO:=zh h2;obtain ⟨n,hn⟩:∃ n,n=5-off:=⟨_,rfl⟩;rw [←hn] at Hc hall hyes ⊢;have hn5:n≤5:=by omega
  obtain ⟨g0,hg0⟩:∃ g0,g0=w.heap.size:=⟨_,rfl⟩;rw [←hg0] at Hc ⊢;clear h1 h2 h3 hn HKD hg0;go_wp2
  go_loop [18] (fun q=>∃ j:Nat,j≤n∧q=.int .i64 j∧Hid (∀ i,i<j→kAll.getD (off+i) 0≠k)) (fun q=>n-(intOf q).toNat)
  case atStart=>exact ⟨0,Nat.zero_le _,rfl,zh (fun i hi=>absurd hi (Nat.not_lt_zero i))⟩
  case round=>
   obtain ⟨j,hj,rfl,hno⟩:=hrel
   by_cases hlt:j<n
   ·have c1:=Hc.out j hlt;obtain ⟨x,hx⟩:∃ x,x=kAll.getD (off+j) 0:=⟨_,rfl⟩;rw [←hx] at c1;have Hx:=zh hx;clear hx
    by_cases hxk:x=k
    ·subst hxk;have hy:=hyes.out j hlt Hx.out.symm;have Hy:=zh hy;have d1:decide (0≤t)=true:=decide_eq_true ht2.1;have d2:decide (t≤2)=true:=decide_eq_true ht2.2;clear hy
     go_wp2_with fail
     refine (zAY t _ _ w1).mono ?_;rintro e w' ⟨rfl,rfl⟩;rw [d1,d2,Bool.and_true];go_wp2;go_ret;exact Tells.yes Hy.out HO.out
    ·have eb:(x==k)=false:=by simpa using hxk
     clear hxk;go_wp2
     go_round
     case rel=>exact ⟨j+1,by omega,by go_num,zh (fun i hi=>by
      by_cases e:i=j
      ·rw [e,←Hx.out];simpa using eb
      ·exact hno.out i (by omega))⟩
     case measure=>simp [intOf]<;>omega
   ·obtain rfl:j=n:=by omega
    have Hno:=zh (hall.out hno.out);go_wp2;go_ret;exact Tells.no Hno.out HO.out
def zMa (y:Nat→Int):Prop:=if zAg (y 0) (y 48)=true then 0≤y 49∧y 49≤51 else y 49=0
theorem zNz {mb:Nat} {y:Nat→Int} {X:Nat→Value} {w:World} (hm:BlkIn w mb 483 51 X) (hX:∀ j,j<482→X j=.int .i64 (y j)):
 Calls Tryz.prog 87 #[.pointer (some ⟨mb,0,none⟩)] w fun e w'=>Tells (zMa y) w e w':=by
 have ht:=zGM hm (k:=y 0) (cbp:=y 48) (hX 0 (by decide)) (hX 48 (by decide));have c49:w.cell? ⟨mb,49,none⟩=some (.int .i64 (y 49)):=by rw [hm.cell 49 (by decide),hX 49 (by decide)]
 obtain ⟨q,hq⟩:∃ q,q=y 49:=⟨_,rfl⟩;rw [←hq] at c49;have Hq:=zh hq;have HT:=zh ht;clear ht hm hX hq
 go_enter Tryz.func87,Tryz.ntmps87
 go_wp2_with fail
 refine HT.out.mono ?_;rintro e w' ⟨rfl,rfl⟩
 cases hb:zAg (y 0) (y 48) with
 |true=>
  have Hb:=zh hb;clear hb HT
  go_wp2_with fail
  refine (zAY q _ _ w).mono ?_;rintro e w' ⟨rfl,rfl⟩;go_wp2;go_ret;exact Tells.of (by unfold zMa;rw [Hb.out,if_pos rfl,←Hq.out];simp) (Only.refl _ _)
 |false=>
  have Hb:=zh hb;clear hb HT
  by_cases h0:q=0
  ·subst h0;go_wp2;go_ret;exact Tells.yes (by unfold zMa;rw [Hb.out,if_neg (by decide),←Hq.out]) (Only.refl _ _)
  ·have e0:(q==0)=false:=by simpa using h0
   go_wp2;go_ret;exact Tells.no (by unfold zMa;rw [Hb.out,if_neg (by decide),←Hq.out];exact h0) (Only.refl _ _)
def zE9 (y:Nat→Int) (len:Nat):Prop:=(y 0=0∨zAX 16 (fun i=>y (2+i)) (fun _=>0)=true)∧(y 0=0∨y 0=1∨y 19=0)∧(y 0=1∨y 18=0)∧(y 0=4∨y 1=0)∧(y 0=2∨len=0)
theorem zLZ (y:Nat→Int) (w:World):(Op.equalIn 10000 39 (.agg #[.int .i64 (y 2),.int .i64 (y 3),.int .i64 (y 4),.int .i64 (y 5),.int .i64 (y 6),.int .i64 (y 7),.int .i64 (y 8),.int .i64 (y 9),.int .i64 (y 10),.int .i64 (y 11),.int .i64 (y 12),.int .i64 (y 13),.int .i64 (y 14),.int .i64 (y 15),.int .i64 (y 16),.int .i64 (y 17)]) (.agg #[.int .i64 0,.int .i64 0,.int .i64 0,.int .i64 0,.int .i64 0,.int .i64 0,.int .i64 0,.int .i64 0,.int .i64 0,.int .i64 0,.int .i64 0,.int .i64 0,.int .i64 0,.int .i64 0,.int .i64 0,.int .i64 0])).run Tryz.prog w=.ok (zAX 16 (fun i=>y (2+i)) (fun _=>0)) w:=zN1 (fun i=>y (2+i)) (fun _=>0) 9998 w
theorem zMh {mb len cap:Nat} {ao:Option Addr} {y:Nat→Int} {w:World} (hc:∀ j,j<482→w.cell? ⟨mb,j,none⟩=some (.int .i64 (y j))) (h482:w.cell? ⟨mb,482,none⟩=some (.slice ao len cap)):
 Calls Tryz.prog 86 #[.pointer (some ⟨mb,0,none⟩)] w fun e w'=>Tells (zE9 y len) w e w':=by
 have heq:=zLZ y;have m0:=hc 2 (by decide);have m1:=hc 3 (by decide);have m2:=hc 4 (by decide);have m3:=hc 5 (by decide);have m4:=hc 6 (by decide);have m5:=hc 7 (by decide);have m6:=hc 8 (by decide);have m7:=hc 9 (by decide);have m8:=hc 10 (by decide);have m9:=hc 11 (by decide);have m10:=hc 12 (by decide);have m11:=hc 13 (by decide);have m12:=hc 14 (by decide);have m13:=hc 15 (by decide);have m14:=hc 16 (by decide);have m15:=hc 17 (by decide);have c0:=hc 0 (by decide);have c1:=hc 1 (by decide);have c18:=hc 18 (by decide);have c19:=hc 19 (by decide);unfold zE9;generalize zAX 16 (fun i=>y (2+i)) (fun _=>0)=M at*;generalize y 0=kd at*;generalize y 1=a1 at*;generalize y 18=a18 at*;generalize y 19=a19 at*;clear hc;have hk:(kd=0∨kd=1∨kd=2∨kd=4)∨((kd==0)=false∧(kd==1)=false∧(kd==2)=false∧(kd==4)=false):=by
  by_cases h0:kd=0
  ·exact .inl (.inl h0)
  ·by_cases h1:kd=1
   ·exact .inl (.inr (.inl h1))
   ·by_cases h2:kd=2
    ·exact .inl (.inr (.inr (.inl h2)))
    ·by_cases h4:kd=4
     ·exact .inl (.inr (.inr (.inr h4)))
     ·exact .inr ⟨by simpa using h0,by simpa using h1,by simpa using h2,by simpa using h4⟩
 have h1':a1=0∨(a1==0)=false:=by by_cases h:a1=0<;>simp [h]
 have h18':a18=0∨(a18==0)=false:=by by_cases h:a18=0<;>simp [h]
 have h19':a19=0∨(a19==0)=false:=by by_cases h:a19=0<;>simp [h]
 have hl':len=0∨(((len:Nat):Int)==0)=false:=by by_cases h:len=0<;>simp [h]
 rcases hk with (rfl|rfl|rfl|rfl)|⟨e0,e1,e2,e4⟩
 ·cases M with
  |false=>
   rcases h19' with rfl|q19
   ·rcases h18' with rfl|qa18
    ·rcases h1' with rfl|qa1
     ·rcases hl' with rfl|qlen
      ·go_enter Tryz.func86,Tryz.ntmps86
       go_wp2;go_ret;exact Tells.yes (by simp_all) (Only.refl _ _)
      ·go_enter Tryz.func86,Tryz.ntmps86
       go_wp2;go_ret;exact Tells.no (by simp_all) (Only.refl _ _)
     ·go_enter Tryz.func86,Tryz.ntmps86
      go_wp2;go_ret;exact Tells.no (by simp_all) (Only.refl _ _)
    ·go_enter Tryz.func86,Tryz.ntmps86
     go_wp2;go_ret;exact Tells.no (by simp_all) (Only.refl _ _)
   ·rcases h18' with rfl|qa18
    ·rcases h1' with rfl|qa1
     ·rcases hl' with rfl|qlen
      ·go_enter Tryz.func86,Tryz.ntmps86
       go_wp2;go_ret;exact Tells.yes (by simp_all) (Only.refl _ _)
      ·go_enter Tryz.func86,Tryz.ntmps86
       go_wp2;go_ret;exact Tells.no (by simp_all) (Only.refl _ _)
     ·go_enter Tryz.func86,Tryz.ntmps86
      go_wp2;go_ret;exact Tells.no (by simp_all) (Only.refl _ _)
    ·go_enter Tryz.func86,Tryz.ntmps86
     go_wp2;go_ret;exact Tells.no (by simp_all) (Only.refl _ _)
  |true=>
   rcases h19' with rfl|q19
   ·rcases h18' with rfl|qa18
    ·rcases h1' with rfl|qa1
     ·rcases hl' with rfl|qlen
      ·go_enter Tryz.func86,Tryz.ntmps86
       go_wp2;go_ret;exact Tells.yes (by simp_all) (Only.refl _ _)
      ·go_enter Tryz.func86,Tryz.ntmps86
       go_wp2;go_ret;exact Tells.no (by simp_all) (Only.refl _ _)
     ·go_enter Tryz.func86,Tryz.ntmps86
      go_wp2;go_ret;exact Tells.no (by simp_all) (Only.refl _ _)
    ·go_enter Tryz.func86,Tryz.ntmps86
     go_wp2;go_ret;exact Tells.no (by simp_all) (Only.refl _ _)
   ·rcases h18' with rfl|qa18
    ·rcases h1' with rfl|qa1
     ·rcases hl' with rfl|qlen
      ·go_enter Tryz.func86,Tryz.ntmps86
       go_wp2;go_ret;exact Tells.yes (by simp_all) (Only.refl _ _)
      ·go_enter Tryz.func86,Tryz.ntmps86
       go_wp2;go_ret;exact Tells.no (by simp_all) (Only.refl _ _)
     ·go_enter Tryz.func86,Tryz.ntmps86
      go_wp2;go_ret;exact Tells.no (by simp_all) (Only.refl _ _)
    ·go_enter Tryz.func86,Tryz.ntmps86
     go_wp2;go_ret;exact Tells.no (by simp_all) (Only.refl _ _)
 ·cases M with
  |false=>
   rcases h19' with rfl|q19
   ·go_enter Tryz.func86,Tryz.ntmps86
    go_wp2;go_ret;exact Tells.no (by simp_all) (Only.refl _ _)
   ·go_enter Tryz.func86,Tryz.ntmps86
    go_wp2;go_ret;exact Tells.no (by simp_all) (Only.refl _ _)
  |true=>
   rcases h19' with rfl|q19
   ·rcases h1' with rfl|qa1
    ·rcases hl' with rfl|qlen
     ·go_enter Tryz.func86,Tryz.ntmps86
      go_wp2;go_ret;exact Tells.yes (by simp_all) (Only.refl _ _)
     ·go_enter Tryz.func86,Tryz.ntmps86
      go_wp2;go_ret;exact Tells.no (by simp_all) (Only.refl _ _)
    ·go_enter Tryz.func86,Tryz.ntmps86
     go_wp2;go_ret;exact Tells.no (by simp_all) (Only.refl _ _)
   ·rcases h1' with rfl|qa1
    ·rcases hl' with rfl|qlen
     ·go_enter Tryz.func86,Tryz.ntmps86
      go_wp2;go_ret;exact Tells.yes (by simp_all) (Only.refl _ _)
     ·go_enter Tryz.func86,Tryz.ntmps86
      go_wp2;go_ret;exact Tells.no (by simp_all) (Only.refl _ _)
    ·go_enter Tryz.func86,Tryz.ntmps86
     go_wp2;go_ret;exact Tells.no (by simp_all) (Only.refl _ _)
 ·cases M with
  |false=>
   rcases h19' with rfl|q19
   ·go_enter Tryz.func86,Tryz.ntmps86
    go_wp2;go_ret;exact Tells.no (by simp_all) (Only.refl _ _)
   ·go_enter Tryz.func86,Tryz.ntmps86
    go_wp2;go_ret;exact Tells.no (by simp_all) (Only.refl _ _)
  |true=>
   rcases h19' with rfl|q19
   ·rcases h18' with rfl|qa18
    ·rcases h1' with rfl|qa1
     ·go_enter Tryz.func86,Tryz.ntmps86
      go_wp2;go_ret;exact Tells.yes (by simp_all) (Only.refl _ _)
     ·go_enter Tryz.func86,Tryz.ntmps86
      go_wp2;go_ret;exact Tells.no (by simp_all) (Only.refl _ _)
    ·go_enter Tryz.func86,Tryz.ntmps86
     go_wp2;go_ret;exact Tells.no (by simp_all) (Only.refl _ _)
   ·go_enter Tryz.func86,Tryz.ntmps86
    go_wp2;go_ret;exact Tells.no (by simp_all) (Only.refl _ _)
 ·cases M with
  |false=>
   rcases h19' with rfl|q19
   ·go_enter Tryz.func86,Tryz.ntmps86
    go_wp2;go_ret;exact Tells.no (by simp_all) (Only.refl _ _)
   ·go_enter Tryz.func86,Tryz.ntmps86
    go_wp2;go_ret;exact Tells.no (by simp_all) (Only.refl _ _)
  |true=>
   rcases h19' with rfl|q19
   ·rcases h18' with rfl|qa18
    ·rcases hl' with rfl|qlen
     ·go_enter Tryz.func86,Tryz.ntmps86
      go_wp2;go_ret;exact Tells.yes (by simp_all) (Only.refl _ _)
     ·go_enter Tryz.func86,Tryz.ntmps86
      go_wp2;go_ret;exact Tells.no (by simp_all) (Only.refl _ _)
    ·go_enter Tryz.func86,Tryz.ntmps86
     go_wp2;go_ret;exact Tells.no (by simp_all) (Only.refl _ _)
   ·go_enter Tryz.func86,Tryz.ntmps86
    go_wp2;go_ret;exact Tells.no (by simp_all) (Only.refl _ _)
 ·cases M with
  |false=>
   rcases h19' with rfl|q19
   ·go_enter Tryz.func86,Tryz.ntmps86
    go_wp2;go_ret;exact Tells.no (by simp_all) (Only.refl _ _)
   ·go_enter Tryz.func86,Tryz.ntmps86
    go_wp2;go_ret;exact Tells.no (by simp_all) (Only.refl _ _)
  |true=>
   rcases h19' with rfl|q19
   ·rcases h18' with rfl|qa18
    ·rcases h1' with rfl|qa1
     ·rcases hl' with rfl|qlen
      ·go_enter Tryz.func86,Tryz.ntmps86
       go_wp2;go_ret;exact Tells.yes (by simp_all) (Only.refl _ _)
      ·go_enter Tryz.func86,Tryz.ntmps86
       go_wp2;go_ret;exact Tells.no (by simp_all) (Only.refl _ _)
     ·go_enter Tryz.func86,Tryz.ntmps86
      go_wp2;go_ret;exact Tells.no (by simp_all) (Only.refl _ _)
    ·go_enter Tryz.func86,Tryz.ntmps86
     go_wp2;go_ret;exact Tells.no (by simp_all) (Only.refl _ _)
   ·go_enter Tryz.func86,Tryz.ntmps86
    go_wp2;go_ret;exact Tells.no (by simp_all) (Only.refl _ _)
end Go.Proofs.YtcppbdlmcbjmeaaGreatDoor
