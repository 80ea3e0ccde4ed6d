/- Lemmas that the law needs, part 26. -/
import Derived.Test.YtcppbdlmcbjmeaaGreatDoorK10
import Derived.Test.YtcppbdlmcbjmeaaGreatDoorK11
set_option maxHeartbeats 3200000
set_option maxRecDepth 100000
namespace Go.Proofs.YtcppbdlmcbjmeaaGreatDoor
open Go.RowKit
def zHz (y:Nat→Int):Prop:=∀ i,i<16→0≤y (2+i)∧y (2+i)≤8
def zAF (y:Nat→Int) (len:Nat) (t:Int):Prop:=
 zL4 t (y 0)∧zE9 y len∧zMa y∧zGm y∧(y 0=0→zHz y∧0≤y 19∧y 19≤3)∧(y 0=1→(0≤y 18∧y 18≤3)∧0≤y 19∧y 19≤3)∧(y 0=2→len=384∧y 48=0)∧(y 0=3→y 48=0)
theorem zMi {mb len cap:Nat} {ao:Option Addr} {y:Nat→Int} {X:Nat→Value} {t:Int} {w:World} (ht:t=0∨t=1∨t=2) (hm:BlkIn w mb 483 51 X) (hX:∀ j,j<482→X j=.int .i64 (y j)) (h482:X 482=.slice ao len cap):
 Calls Tryz.prog 49 #[.pointer (some ⟨mb,0,none⟩),.int .i64 t] w fun e w'=>Tells (zAF y len t) w e w':=by
 have HB:Hid (∀ wr,Only [] w wr→BlkIn wr mb 483 51 X):=zh (fun wr ho=>hm.only ho (by simp));have HCW:Hid (∀ wr,Only [] w wr→∀ j,j<482→wr.cell? ⟨mb,j,none⟩=some (.int .i64 (y j))):=zh (fun wr ho j hj=>by rw [(HB.out wr ho).cell j (by omega),hX j hj]);have HP:Hid (∀ wr,Only [] w wr→wr.cell? ⟨mb,482,none⟩=some (.slice ao len cap)):=zh (fun wr ho=>by rw [(HB.out wr ho).cell 482 (by decide),h482]);have HX:=zh hX;have Ht:=zh ht;have c0:=HCW.out w (Only.refl _ _) 0 (by decide);obtain ⟨kd,hkd⟩:∃ kd,kd=y 0:=⟨_,rfl⟩;rw [←hkd] at c0;have Hkd:=zh hkd;clear hm hX h482 ht hkd
 go_enter Tryz.func49,Tryz.ntmps49
 go_wp2_with fail
 refine (zNP t kd Ht.out w).mono ?_;rintro e w1 ⟨b1,rfl,hb1,o1⟩;have O1:=zh o1;have B1:Hid (b1=true↔zL4 t (y 0)):=zh (by rw [←Hkd.out];exact hb1);clear o1 hb1 c0
 cases b1 with
 |false=>
  have Hno:Hid (¬ zAF y len t):=zh (fun h=>absurd (B1.out.2 h.1) (by decide));go_wp2;go_ret;exact Tells.no Hno.out O1.out
 |true=>
  have P1:=zh (B1.out.1 rfl)
  go_wp2_with fail
  refine (zMh (y:=y) (HCW.out w1 O1.out) (HP.out w1 O1.out)).mono ?_;rintro e w2 ⟨b2,rfl,hb2,o2⟩;have O2:=zh (O1.out.trans o2);have B2:=zh hb2;clear o2 hb2
  cases b2 with
  |false=>
   have Hno:Hid (¬ zAF y len t):=zh (fun h=>absurd (B2.out.2 h.2.1) (by decide));go_wp2;go_ret;exact Tells.no Hno.out O2.out
  |true=>
   have P2:=zh (B2.out.1 rfl)
   go_wp2_with fail
   refine (zNz (y:=y) (HB.out w2 O2.out) HX.out).mono ?_;rintro e w3 ⟨b3,rfl,hb3,o3⟩;have O3:=zh (O2.out.trans o3);have B3:=zh hb3;clear o3 hb3
   cases b3 with
   |false=>
    have Hno:Hid (¬ zAF y len t):=zh (fun h=>absurd (B3.out.2 h.2.2.1) (by decide));go_wp2;go_ret;exact Tells.no Hno.out O3.out
   |true=>
    have P3:=zh (B3.out.1 rfl)
    go_wp2_with fail
    refine (zLG (y:=y) (HCW.out w3 O3.out)).mono ?_;rintro e w4 ⟨b4,rfl,hb4,o4⟩;have O4:=zh (O3.out.trans o4);have B4:=zh hb4;clear o4 hb4
    cases b4 with
    |false=>
     have Hno:Hid (¬ zAF y len t):=zh (fun h=>absurd (B4.out.2 h.2.2.2.1) (by decide));go_wp2;go_ret;exact Tells.no Hno.out O4.out
    |true=>
     have P4:=zh (B4.out.1 rfl);have HR:Hid (zAF y len t↔((kd=0→zHz y∧0≤y 19∧y 19≤3)∧(kd=1→(0≤y 18∧y 18≤3)∧0≤y 19∧y 19≤3)∧(kd=2→len=384∧y 48=0)∧(kd=3→y 48=0))):=zh (by
      rw [Hkd.out];exact ⟨fun h=>⟨h.2.2.2.2.1,h.2.2.2.2.2.1,h.2.2.2.2.2.2.1,h.2.2.2.2.2.2.2⟩,fun h=>⟨P1.out,P2.out,P3.out,P4.out,h.1,h.2.1,h.2.2.1,h.2.2.2⟩⟩)
     have c0:w4.cell? ⟨mb,0,none⟩=some (.int .i64 kd):=by rw [HCW.out w4 O4.out 0 (by decide),Hkd.out]
     have c18:=HCW.out w4 O4.out 18 (by decide);have c19:=HCW.out w4 O4.out 19 (by decide);have c48:=HCW.out w4 O4.out 48 (by decide);have c482:=HP.out w4 O4.out;obtain ⟨a18,h18⟩:∃ a,a=y 18:=⟨_,rfl⟩;obtain ⟨a19,h19⟩:∃ a,a=y 19:=⟨_,rfl⟩;obtain ⟨a48,h48⟩:∃ a,a=y 48:=⟨_,rfl⟩;rw [←h18] at c18;rw [←h19] at c19;rw [←h48] at c48;have H18:=zh h18;have H19:=zh h19;have H48:=zh h48;clear h18 h19 h48 B1 B2 B3 B4 O1 O2 O3 P1 P2 P3 P4
     by_cases k0:kd=0
     ·subst k0;have HR0:Hid (zAF y len t↔zHz y∧0≤y 19∧y 19≤3):=zh ⟨fun h=>(HR.out.1 h).1 rfl,fun h=>HR.out.2 ⟨fun _=>h,fun h=>absurd h (by decide),fun h=>absurd h (by decide),fun h=>absurd h (by decide)⟩⟩;clear HR;obtain ⟨Ms,hMs⟩:∃ Ms,Ms=((List.range 16).map fun i=>y (2+i)).map (Value.int .i64):=⟨_,rfl⟩;have hr2:w4.rangeAt mb 2 Ms:=by
       intro j v hj;rw [hMs] at hj;have hjl:j<16:=by
        apply Classical.byContradiction
        intro e;rw [List.getElem?_eq_none (by simp;omega)] at hj
        cases hj
       rw [HCW.out w4 O4.out (2+j) (by omega)]
       simpa [hjl] using hj
      have hla:(Tryz.prog.info? 39).map (·.size)=some Ms.length:=by rw [hMs];simp only [List.length_map,List.length_range];kernel_rfl
      have hix:∀ (k:Nat),k<16→∀ w:World,(Instr.index 39 (.agg Ms.toArray) (.int .i64 k)).run Tryz.prog w=.ok (.int .i64 (y (2+k))) w:=by
       intro k hk w;have:=Zp (P:=Tryz.prog) 39 3 16 ((List.range 16).map fun i=>y (2+i)) k w Tryz.underlying39 Tryz.underlying3 (by kernel_rfl) (by simp) hk;rw [show ((List.range 16).map fun i=>y (2+i)).getD k 0=y (2+k) by simp [List.getD,List.getElem?_map,List.getElem?_range hk]] at this;rw [hMs];exact this
      have HIX:=zh hix;have HL:=zh hla;have HR2:=zh hr2;clear hMs hla hix hr2 c18 c48 c482
      go_wp2_with (with_reducible refine wpList_load_mid rfl _ _ rfl mb 2 rfl Ms _ HR2.out Tryz.underlying39 rfl HL.out ?_)
      go_wp2;generalize Ms.toArray=Ma at*
      go_loop [39] (fun q=>∃ k:Nat,k≤16∧q=.int .i64 k∧Hid (∀ i,i<k→0≤y (2+i)∧y (2+i)≤8)) (fun q=>16-(intOf q).toNat)
      case atStart=>exact ⟨0,by omega,rfl,zh (fun i hi=>absurd hi (Nat.not_lt_zero i))⟩
      case round=>
       obtain ⟨k,hk,rfl,hall⟩:=hrel
       by_cases hlt:k<16
       ·have hi:=HIX.out k hlt w4;obtain ⟨x,hx⟩:∃ x,x=y (2+k):=⟨_,rfl⟩;rw [←hx] at hi;have Hx:=zh hx;clear hx
        go_wp2_with fail
        refine (zAY x _ _ w4).mono ?_;rintro e w' ⟨rfl,rfl⟩
        by_cases hin:0≤x∧x≤8
        ·have Hin:=zh hin;rw [decide_eq_true hin.1,decide_eq_true hin.2,Bool.and_true];clear hin;go_wp2
         go_round
         case rel=>exact ⟨k+1,by omega,by go_num,zh (fun i hi=>by
          by_cases e:i=k
          ·rw [e,←Hx.out];exact Hin.out
          ·exact hall.out i (by omega))⟩
         case measure=>simp [intOf]<;>omega
        ·have hbf:(decide (0≤x)&&decide (x≤8))=false:=by
          apply Bool.eq_false_iff.2
          simp only [Bool.and_eq_true,decide_eq_true_eq,ne_eq];exact hin
         rw [hbf];have Hno:Hid (¬ zAF y len t):=zh (fun h=>hin (by rw [Hx.out];exact (HR0.out.1 h).1 k hlt));clear hin hbf;go_wp2;go_ret;exact Tells.no Hno.out O4.out
       ·obtain rfl:k=16:=by omega
        go_wp2_with fail
        refine (zAY a19 _ _ w4).mono ?_;rintro e w' ⟨rfl,rfl⟩;have HT:Hid ((decide (0≤a19)&&decide (a19≤3))=true↔zAF y len t):=zh (by
         rw [HR0.out,←H19.out];simp only [Bool.and_eq_true,decide_eq_true_eq];exact ⟨fun h=>⟨hall.out,h⟩,fun h=>h.2⟩)
        go_wp2;go_ret;exact Tells.of HT.out O4.out
     ·have e0:(kd==0)=false:=by simpa using k0
      by_cases k1:kd=1
      ·subst k1;have HR1:Hid (zAF y len t↔(0≤y 18∧y 18≤3)∧0≤y 19∧y 19≤3):=zh ⟨fun h=>(HR.out.1 h).2.1 rfl,fun h=>HR.out.2 ⟨fun h=>absurd h (by decide),fun _=>h,fun h=>absurd h (by decide),fun h=>absurd h (by decide)⟩⟩;clear HR;clear c48 c482
       go_wp2_with fail
       refine (zAY a18 _ _ w4).mono ?_;rintro e w' ⟨rfl,rfl⟩
       by_cases h18:0≤a18∧a18≤3
       ·rw [decide_eq_true h18.1,decide_eq_true h18.2,Bool.and_true];have G18:=zh h18;clear h18
        go_wp2_with fail
        refine (zAY a19 _ _ w4).mono ?_;rintro e w' ⟨rfl,rfl⟩;have HT:Hid ((decide (0≤a19)&&decide (a19≤3))=true↔zAF y len t):=zh (by
         rw [HR1.out,←H19.out,←H18.out];simp only [Bool.and_eq_true,decide_eq_true_eq];exact ⟨fun h=>⟨G18.out,h⟩,fun h=>h.2⟩)
        obtain ⟨bb,hbb⟩:∃ bb,bb=(decide (0≤a19)&&decide (a19≤3)):=⟨_,rfl⟩;rw [←hbb] at HT ⊢;clear hbb;go_wp2;go_ret;exact Tells.of HT.out O4.out
       ·have hbf:(decide (0≤a18)&&decide (a18≤3))=false:=by
         apply Bool.eq_false_iff.2
         simp only [Bool.and_eq_true,decide_eq_true_eq,ne_eq];exact h18
        rw [hbf];have Hno:Hid (¬ zAF y len t):=zh (fun h=>h18 (by rw [H18.out];exact (HR1.out.1 h).1));clear h18 hbf;go_wp2;go_ret;exact Tells.no Hno.out O4.out
      ·have e1:(kd==1)=false:=by simpa using k1
       clear c18 c19
       by_cases k2:kd=2
       ·subst k2;have HR2:Hid (zAF y len t↔len=384∧y 48=0):=zh ⟨fun h=>(HR.out.1 h).2.2.1 rfl,fun h=>HR.out.2 ⟨fun h=>absurd h (by decide),fun h=>absurd h (by decide),fun _=>h,fun h=>absurd h (by decide)⟩⟩;clear HR
        by_cases hl:len=384
        ·have el:(((len:Nat):Int)==384)=true:=by simp [hl]
         by_cases h4:a48=0
         ·subst h4;have Hy:Hid (zAF y len t):=zh (HR2.out.2 ⟨hl,H48.out.symm⟩);clear hl;go_wp2;go_ret;exact Tells.yes Hy.out O4.out
         ·have e4:(a48==0)=false:=by simpa using h4
          have Hno:Hid (¬ zAF y len t):=zh (fun h=>h4 (by rw [H48.out];exact (HR2.out.1 h).2));clear hl h4;go_wp2;go_ret;exact Tells.no Hno.out O4.out
        ·have el:(((len:Nat):Int)==384)=false:=by simp;omega
         have Hno:Hid (¬ zAF y len t):=zh (fun h=>hl (HR2.out.1 h).1);clear hl;go_wp2;go_ret;exact Tells.no Hno.out O4.out
       ·have e2:(kd==2)=false:=by simpa using k2
        by_cases k3:kd=3
        ·subst k3;have HR3:Hid (zAF y len t↔y 48=0):=zh ⟨fun h=>(HR.out.1 h).2.2.2 rfl,fun h=>HR.out.2 ⟨fun h=>absurd h (by decide),fun h=>absurd h (by decide),fun h=>absurd h (by decide),fun _=>h⟩⟩;clear HR
         by_cases h4:a48=0
         ·subst h4;have Hy:Hid (zAF y len t):=zh (HR3.out.2 H48.out.symm);go_wp2;go_ret;exact Tells.yes Hy.out O4.out
         ·have e4:(a48==0)=false:=by simpa using h4
          have Hno:Hid (¬ zAF y len t):=zh (fun h=>h4 (by rw [H48.out];exact HR3.out.1 h));clear h4;go_wp2;go_ret;exact Tells.no Hno.out O4.out
        ·have e3:(kd==3)=false:=by simpa using k3
         have Hy:Hid (zAF y len t):=zh (HR.out.2 ⟨fun h=>absurd h k0,fun h=>absurd h k1,fun h=>absurd h k2,fun h=>absurd h k3⟩);clear k0 k1 k2 k3;go_wp2;go_ret;exact Tells.yes Hy.out O4.out
end Go.Proofs.YtcppbdlmcbjmeaaGreatDoor
