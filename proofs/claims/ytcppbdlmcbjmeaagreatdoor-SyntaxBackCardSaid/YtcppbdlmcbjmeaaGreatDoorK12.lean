/- Lemmas that the law needs, part 12. -/
import Derived.Test.YtcppbdlmcbjmeaaGreatDoorK09
import Derived.Test.YtcppbdlmcbjmeaaGreatDoorK11
import Derived.Deep.DeepCutAuto
import Derived.Deep.CutBlock
set_option maxHeartbeats 12800000
set_option maxRecDepth 100000
namespace Go.Proofs.YtcppbdlmcbjmeaaGreatDoor
open Go.RowKit
theorem zNx {x y:Int} (h:x=y):Ending.returned (.int .i64 x)=Ending.returned (.int .i64 y):=by rw [h]
def zM8 (a b c:Int):Int:=max (min a b) (min (max a b) c)
theorem zHE (a b c:Int) (w:World):Calls Tryz.prog 173 #[.int .i64 a,.int .i64 b,.int .i64 c] w fun e w'=>e=.returned (.int .i64 (zM8 a b c))∧w=w':=by
 go_enter Tryz.func173,Tryz.ntmps173
 go_wp2
 all_goals go_ret
 all_goals (refine ⟨zNx ?_,rfl⟩;unfold zM8;(try simp only [Int.max_def,Int.min_def] at*);(repeat' split);all_goals (first|rfl|omega|(split at*<;>omega)))
def zFY (r x:Int):Int:=if r<0 then 0 else x
def stN (i k:Nat) (r x:Int):Int:=if k<i then zFY r x else x
def zBM (shape part:Int):Int:=if shape=1∧part=0 then 1 else if (shape=1∧part=1)∨(shape=2∧part=0) then 0 else if shape=2∧part=1 then 2 else -1
def zFj (ref r0 r1 r2:Int) (i:Nat):Int:=(if 0<i∧r0=ref then 1 else 0)+(if 1<i∧r1=ref then 1 else 0)+(if 2<i∧r2=ref then 1 else 0)
def zBe (ref r1 r2:Int) (i:Nat):Int:=if 2<i∧r2=ref then 2 else if 1<i∧r1=ref then 1 else 0
def zFg (r0 r1 r2 X0 X1 X2 ref f:Int):Int:=
 if (f=0∧r0=ref)∨(f=1∧r1=ref)∨(f=2∧r2=ref) then (if f=0 then X0 else if f=1 then X1 else X2)
 else if r1=-2∧r2=-2∧r0≠-2 then X0
 else if zFj ref r0 r1 r2 3=1 then (if zBe ref r1 r2 3=0 then X0 else if zBe ref r1 r2 3=1 then X1 else X2)
 else zM8 X0 X1 X2
def zHd (r0 r1 r2 ref f:Int):Prop:=(f=0∧r0=ref)∨(f=1∧r1=ref)∨(f=2∧r2=ref)
theorem zG6 {r0 r1 r2 X0 X1 X2 ref f O:Int} (hf:¬ zHd r0 r1 r2 ref f) (hb:¬ (r1=-2∧r2=-2∧r0≠-2)) (hc:zFj ref r0 r1 r2 3=1) (ho:zBe ref r1 r2 3=O):zFg r0 r1 r2 X0 X1 X2 ref f=if O=0 then X0 else if O=1 then X1 else X2:=by
 unfold zFg;unfold zHd at hf;rw [if_neg hf,if_neg hb,if_pos hc,ho]
theorem zG7 {r0 r1 r2 X0 X1 X2 ref f:Int} (hf:¬ zHd r0 r1 r2 ref f) (hb:¬ (r1=-2∧r2=-2∧r0≠-2)) (hc:¬ zFj ref r0 r1 r2 3=1):zFg r0 r1 r2 X0 X1 X2 ref f=zM8 X0 X1 X2:=by
 unfold zFg;unfold zHd at hf;rw [if_neg hf,if_neg hb,if_neg hc]
def zBN (r0 r1 r2 x0 x1 x2 ref f:Int):Int:=zFg r0 r1 r2 (zFY r0 x0) (zFY r1 x1) (zFY r2 x2) ref f
theorem zBq {r0 r1 r2 x0 y0 x1 y1 x2 y2 ref shape part:Int} {w:World} (hsh:shape=1∨shape=2→part=0∨part=1):
 Calls Tryz.prog 141 #[.agg #[.int .i64 r0,.int .i64 r1,.int .i64 r2],.agg #[.int .i64 x0,.int .i64 y0,.int .i64 x1,.int .i64 y1,.int .i64 x2,.int .i64 y2],.int .i64 ref,.int .i64 shape,.int .i64 part] w fun e w'=>
  e=.returned (.agg #[.int .i64 (zBN r0 r1 r2 x0 x1 x2 ref (zBM shape part)),.int .i64 (zBN r0 r1 r2 y0 y1 y2 ref (zBM shape part))])∧Only [] w w':=by
 obtain ⟨wA,hwA⟩:∃ wA,wA=((w.alloc (.cells #[.int .i64 r0,.int .i64 r1,.int .i64 r2] 188)).alloc (.cells #[.int .i64 x0,.int .i64 y0,.int .i64 x1,.int .i64 y1,.int .i64 x2,.int .i64 y2] 238)).alloc (.cells #[.int .i64 0,.int .i64 0] 42):=⟨_,rfl⟩;have oA:Only [] w wA:=by rw [hwA];exact (((Only.refl _ w).alloc _).alloc _).alloc _
 have a0:wA.heap[w.heap.size]? =some (.cells #[.int .i64 r0,.int .i64 r1,.int .i64 r2] 188 (0,0)):=by rw [hwA];exact ZE _ (ZE _ (ZA w _))
 have a1:wA.heap[w.heap.size+1]? =some (.cells #[.int .i64 x0,.int .i64 y0,.int .i64 x1,.int .i64 y1,.int .i64 x2,.int .i64 y2] 238 (0,0)):=by rw [hwA];exact zKO w _ _ _
 have a2:wA.heap[w.heap.size+1+1]? =some (.cells #[.int .i64 0,.int .i64 0] 42 (0,0)):=by rw [hwA];exact zKN w _ _ _
 have HA0:=zh a0;have HA1:=zh a1;have HA2:=zh a2;have HO:=zh oA;clear a0 a1 a2 oA
 go_enter Tryz.func141,Tryz.ntmps141
 go_wp2_with fail
 rw [←hwA];clear hwA
 go_loopw [17] (fun q wr=>∃ i:Nat,i≤3∧q=.int .i64 (i:Int)∧Hid (wr.heap[w.heap.size+1]? =some (.cells #[.int .i64 (stN i 0 r0 x0),.int .i64 (stN i 0 r0 y0),.int .i64 (stN i 1 r1 x1),.int .i64 (stN i 1 r1 y1),.int .i64 (stN i 2 r2 x2),.int .i64 (stN i 2 r2 y2)] 238 (0,0))∧Only [w.heap.size+1] wA wr)) (fun q _=>(3-intOf q).toNat)
 case atStart=>exact ⟨0,by decide,rfl,zh ⟨HA1.out,Only.refl _ _⟩⟩
 case round=>
  obtain ⟨i,hi,rfl,Hi⟩:=hrel;have hR:=Hi.out.2.heap HA0.out (by simp);have c0:=zA hR 0;have c1:=zA hR 1;have c2:=zA hR 2;have v0:=zA Hi.out.1 0;have v1:=zA Hi.out.1 1;have v2:=zA Hi.out.1 2;have v3:=zA Hi.out.1 3;have v4:=zA Hi.out.1 4;have v5:=zA Hi.out.1 5;have z0:=ZB Hi.out.1 0;have z1:=ZB Hi.out.1 1;have z2:=ZB Hi.out.1 2;have z3:=ZB Hi.out.1 3;have z4:=ZB Hi.out.1 4;have z5:=ZB Hi.out.1 5;have HR:=zh hR;clear hR;obtain rfl|rfl|rfl|rfl:i=0∨i=1∨i=2∨i=3:=by omega
  ·by_cases h:r0<0
   ·have e:=zh (zB (i:=1) (.int .i64 0) (zB (i:=0) (.int .i64 0) Hi.out.1));have ho:=zh ((Hi.out.2.setCell (.inl (by simp)) (.int .i64 0):Only [w.heap.size+1] wA (wr.setCell ⟨w.heap.size+1,0,none⟩ (.int .i64 0))).setCell (.inl (by simp)) (.int .i64 0):Only [w.heap.size+1] wA ((wr.setCell ⟨w.heap.size+1,0,none⟩ (.int .i64 0)).setCell ⟨w.heap.size+1,1,none⟩ (.int .i64 0)));go_wp2;exact ⟨⟨1,by decide,rfl,zh ⟨by rw [e.out];simp [stN,zFY,h],ho.out⟩⟩,by simp [intOf]⟩
   ·go_wp2;exact ⟨⟨1,by decide,rfl,zh ⟨by rw [Hi.out.1];simp [stN,zFY,h],Hi.out.2⟩⟩,by simp [intOf]⟩
  ·by_cases h:r1<0
   ·have e:=zh (zB (i:=3) (.int .i64 0) (zB (i:=2) (.int .i64 0) Hi.out.1));have ho:=zh ((Hi.out.2.setCell (.inl (by simp)) (.int .i64 0):Only [w.heap.size+1] wA (wr.setCell ⟨w.heap.size+1,2,none⟩ (.int .i64 0))).setCell (.inl (by simp)) (.int .i64 0):Only [w.heap.size+1] wA ((wr.setCell ⟨w.heap.size+1,2,none⟩ (.int .i64 0)).setCell ⟨w.heap.size+1,3,none⟩ (.int .i64 0)));go_wp2;exact ⟨⟨2,by decide,rfl,zh ⟨by rw [e.out];simp [stN,zFY,h],ho.out⟩⟩,by simp [intOf]⟩
   ·go_wp2;exact ⟨⟨2,by decide,rfl,zh ⟨by rw [Hi.out.1];simp [stN,zFY,h],Hi.out.2⟩⟩,by simp [intOf]⟩
  ·by_cases h:r2<0
   ·have e:=zh (zB (i:=5) (.int .i64 0) (zB (i:=4) (.int .i64 0) Hi.out.1));have ho:=zh ((Hi.out.2.setCell (.inl (by simp)) (.int .i64 0):Only [w.heap.size+1] wA (wr.setCell ⟨w.heap.size+1,4,none⟩ (.int .i64 0))).setCell (.inl (by simp)) (.int .i64 0):Only [w.heap.size+1] wA ((wr.setCell ⟨w.heap.size+1,4,none⟩ (.int .i64 0)).setCell ⟨w.heap.size+1,5,none⟩ (.int .i64 0)));go_wp2;exact ⟨⟨3,by decide,rfl,zh ⟨by rw [e.out];simp [stN,zFY,h],ho.out⟩⟩,by simp [intOf]⟩
   ·go_wp2;exact ⟨⟨3,by decide,rfl,zh ⟨by rw [Hi.out.1];simp [stN,zFY,h],Hi.out.2⟩⟩,by simp [intOf]⟩
  ·have hO3:=Hi.out.2.heap HA2.out (by simp);have hV:=Hi.out.1;have es:∀ k,k<3→∀ r x,stN 3 k r x=zFY r x:=fun k hk r x=>by unfold stN;rw [if_pos hk]
   rw [es 0 (by decide),es 0 (by decide),es 1 (by decide),es 1 (by decide),es 2 (by decide),es 2 (by decide)] at hV;clear v0 v1 v2 v3 v4 v5;obtain ⟨X0,hX0⟩:∃ X,X=zFY r0 x0:=⟨_,rfl⟩;obtain ⟨Y0,hY0⟩:∃ X,X=zFY r0 y0:=⟨_,rfl⟩;obtain ⟨X1,hX1⟩:∃ X,X=zFY r1 x1:=⟨_,rfl⟩;obtain ⟨Y1,hY1⟩:∃ X,X=zFY r1 y1:=⟨_,rfl⟩;obtain ⟨X2,hX2⟩:∃ X,X=zFY r2 x2:=⟨_,rfl⟩;obtain ⟨Y2,hY2⟩:∃ X,X=zFY r2 y2:=⟨_,rfl⟩;rw [←hX0,←hY0,←hX1,←hY1,←hX2,←hY2] at hV;have HX:Hid (∀ f,zBN r0 r1 r2 x0 x1 x2 ref f=zFg r0 r1 r2 X0 X1 X2 ref f∧zBN r0 r1 r2 y0 y1 y2 ref f=zFg r0 r1 r2 Y0 Y1 Y2 ref f):=zh (fun f=>by rw [hX0,hX1,hX2,hY0,hY1,hY2];exact ⟨rfl,rfl⟩);have v0:=zA hV 0;have v1:=zA hV 1;have v2:=zA hV 2;have v3:=zA hV 3;have v4:=zA hV 4;have v5:=zA hV 5;have o0:=zA hO3 0;have o1:=zA hO3 1;have p0:=ZB hO3 0;have p1:=ZB hO3 1;have HV:=zh hV
   have HO3:=zh hO3;have Ow:Hid (Only [] w wr):=zh (HO.out.trans' Hi.out.2 (fun i hi=> .inr (by simp at hi;omega)));clear hV hO3 es z0 z1 z2 z3 z4 z5 Hi HA0 HA1 HA2 hX0 hX1 hX2 hY0 hY1 hY2;have Hans:Hid (∀ (wx:World) (a b:Int) (w9:World),Only [] wr wx→w9=(wx.setCell ⟨w.heap.size+1+1,0,none⟩ (.int .i64 a)).setCell ⟨w.heap.size+1+1,1,none⟩ (.int .i64 b)→w9.heap[w.heap.size+1+1]? =some (.cells #[.int .i64 a,.int .i64 b] 42 (0,0))∧Only [] w w9):=zh (fun wx a b w9 hx e=>by
    rw [e];exact ⟨zB (i:=1) (.int .i64 b) (zB (i:=0) (.int .i64 a) (hx.heap HO3.out (by simp))),((Ow.out.trans hx).setCell (.inr (by simp;omega)) _).setCell (.inr (by simp;omega)) _⟩)
   have hcase:(shape=1∧part=0∧zBM shape part=1)∨(shape=1∧part=1∧zBM shape part=0)∨(shape=2∧part=0∧zBM shape part=0)∨(shape=2∧part=1∧zBM shape part=2)∨(shape≠1∧shape≠2∧zBM shape part=-1):=by
    unfold zBM
    by_cases h1:shape=1
    ·rcases hsh (.inl h1) with h|h<;>simp [h1,h]
    ·by_cases h2:shape=2
     ·rcases hsh (.inr h2) with h|h<;>simp [h2,h]
     ·simp [h1,h2]
   have HC:=zh hcase;obtain ⟨F,hF⟩:∃ F,F=zBM shape part:=⟨_,rfl⟩;have HF:=zh hF;have hFr:F=-1∨F=0∨F=1∨F=2:=by
    rcases hcase with ⟨-,-,h⟩|⟨-,-,h⟩|⟨-,-,h⟩|⟨-,-,h⟩|⟨-,-,h⟩<;>rw [hF,h]<;>decide
   have HFr:=zh hFr;clear hcase hF hFr hsh
   go_upto_block 2 with fail
   go_cut [12] (fun s12 wx=>s12=.int .i64 F∧Hid (wx=wr))
   case first=>
    rcases HC.out with ⟨rfl,rfl,h⟩|⟨rfl,rfl,h⟩|⟨rfl,rfl,h⟩|⟨rfl,rfl,h⟩|⟨h1,h2,h⟩
    all_goals
     have Hv:=zh (HF.out.trans h);clear h
     go_wp2_with fail
     go_meet;exact ⟨by rw [Hv.out],zh rfl⟩
   case rest=>
    obtain ⟨rfl,hwc⟩:=hcut;obtain rfl:=hwc.out.symm;clear hwc
    go_upto_region 15 with fail
    go_cut [63] (fun s63 wx=>∃ B:Bool,s63=.bool B∧Hid ((B=true↔zHd r0 r1 r2 ref F)∧wx=wr))
    case first=>
     rcases HFr.out with rfl|rfl|rfl|rfl
     ·go_wp2_with fail
      go_meet;exact ⟨false,rfl,zh ⟨by unfold zHd;simp,rfl⟩⟩
     ·by_cases h:r0=ref
      ·have h2:=zh h;subst h
       go_wp2_with fail
       go_meet;exact ⟨true,rfl,zh ⟨by unfold zHd;simp,rfl⟩⟩
      ·go_wp2_with fail
       go_meet;exact ⟨false,by simp [h],zh ⟨by unfold zHd;simp [h],rfl⟩⟩
     ·by_cases h:r1=ref
      ·have h2:=zh h;subst h
       go_wp2_with fail
       go_meet;exact ⟨true,rfl,zh ⟨by unfold zHd;simp,rfl⟩⟩
      ·go_wp2_with fail
       go_meet;exact ⟨false,by simp [h],zh ⟨by unfold zHd;simp [h],rfl⟩⟩
     ·by_cases h:r2=ref
      ·have h2:=zh h;subst h
       go_wp2_with fail
       go_meet;exact ⟨true,rfl,zh ⟨by unfold zHd;simp,rfl⟩⟩
      ·go_wp2_with fail
       go_meet;exact ⟨false,by simp [h],zh ⟨by unfold zHd;simp [h],rfl⟩⟩
    case rest=>
     obtain ⟨B,rfl,hwc⟩:=hcut;obtain ⟨hB,hw9⟩:=hwc.out;obtain rfl:=hw9.symm;have HB:=zh hB;clear hwc hB
     cases B with
     |true=>
      have HLk:=zh (HB.out.1 rfl);have hFp:F=0∨F=1∨F=2:=by
       have:=HLk.out;unfold zHd at this;omega
      rcases hFp with rfl|rfl|rfl
      all_goals
       go_wp2;refine ZU rfl (w.heap.size+1+1) rfl (Hans.out _ _ _ _ (Only.refl _ _) rfl).1 Tryz.underlying42 rfl (by kernel_rfl) rfl ?_;refine ⟨?_,(Hans.out _ _ _ _ (Only.refl _ _) rfl).2⟩;rw [←HF.out,(HX.out _).1,(HX.out _).2];have hl:=HLk.out;unfold zHd at hl;unfold zFg;rw [if_pos hl,if_pos hl]
       rfl
     |false=>
      have HL:Hid (¬ zHd r0 r1 r2 ref F):=zh (fun h=>by have:=HB.out.2 h;cases this);clear HB
      go_upto_region 17 with fail
      go_cut [79] (fun s79 wx=>∃ B:Bool,s79=.bool B∧Hid ((B=true↔(r1=-2∧r2=-2∧r0≠-2))∧wx=wr))
      case first=>
       rcases Bool.eq_false_or_eq_true (r1==-2) with b1|b1
       ·rcases Bool.eq_false_or_eq_true (r2==-2) with b2|b2
        ·rcases Bool.eq_false_or_eq_true (r0==-2) with b0|b0
         ·go_wp2_with fail
          go_meet;exact ⟨false,by simp [bne,b0],zh ⟨by simp at b0;simp [b0],rfl⟩⟩
         ·go_wp2_with fail
          go_meet;exact ⟨true,by simp [bne,b0],zh ⟨by simp at b0 b1 b2;simp [b0,b1,b2],rfl⟩⟩
        ·go_wp2_with fail
         go_meet;exact ⟨false,rfl,zh ⟨by simp at b2;simp [b2],rfl⟩⟩
       ·go_wp2_with fail
        go_meet;exact ⟨false,by rfl,zh ⟨by simp at b1;simp [b1],rfl⟩⟩
      case rest=>
       obtain ⟨B,rfl,hwc⟩:=hcut;obtain ⟨hB,hw9⟩:=hwc.out;obtain rfl:=hw9.symm;have HB:=zh hB;clear hwc hB
       cases B with
       |true=>
        have Hb:=zh (HB.out.1 rfl);go_wp2;refine ZU rfl (w.heap.size+1+1) rfl (Hans.out _ _ _ _ (Only.refl _ _) rfl).1 Tryz.underlying42 rfl (by kernel_rfl) rfl ?_;refine ⟨?_,(Hans.out _ _ _ _ (Only.refl _ _) rfl).2⟩;rw [←HF.out,(HX.out _).1,(HX.out _).2];have hl:=HL.out;unfold zHd at hl;unfold zFg;rw [if_neg hl,if_neg hl,if_pos Hb.out,if_pos Hb.out]
       |false=>
        have Hb:Hid (¬ (r1=-2∧r2=-2∧r0≠-2)):=zh (fun h=>by have:=HB.out.2 h;cases this);clear HB;have ix0:∀ wx,(Instr.index 188 (.agg #[.int .i64 r0,.int .i64 r1,.int .i64 r2]) (.int .i64 0)).run Tryz.prog wx=.ok (.int .i64 r0) wx:=fun wx=>Zp 188 3 3 [r0,r1,r2] 0 wx Tryz.underlying188 Tryz.underlying3 (by kernel_rfl) rfl (by decide)
        have ix1:∀ wx,(Instr.index 188 (.agg #[.int .i64 r0,.int .i64 r1,.int .i64 r2]) (.int .i64 1)).run Tryz.prog wx=.ok (.int .i64 r1) wx:=fun wx=>Zp 188 3 3 [r0,r1,r2] 1 wx Tryz.underlying188 Tryz.underlying3 (by kernel_rfl) rfl (by decide)
        have ix2:∀ wx,(Instr.index 188 (.agg #[.int .i64 r0,.int .i64 r1,.int .i64 r2]) (.int .i64 2)).run Tryz.prog wx=.ok (.int .i64 r2) wx:=fun wx=>Zp 188 3 3 [r0,r1,r2] 2 wx Tryz.underlying188 Tryz.underlying3 (by kernel_rfl) rfl (by decide)
        go_wp2
        go_loopw [83,13,14] (fun q m o wx=>∃ (i:Nat) (M O:Int),i≤3∧q=.int .i64 (i:Int)∧m=.int .i64 M∧o=.int .i64 O∧0≤M∧M≤i∧Hid (wx=wr∧M=zFj ref r0 r1 r2 i∧O=zBe ref r1 r2 i)) (fun q _ _ _=>(3-intOf q).toNat)
        case atStart=>exact ⟨0,0,0,by decide,rfl,rfl,rfl,by decide,by decide,zh ⟨rfl,by simp [zFj],by simp [zBe]⟩⟩
        case round=>
         obtain ⟨i,M,O,hi,rfl,rfl,rfl,hM0,hM1,hMO⟩:=hrel;obtain ⟨rfl,hMc,hOc⟩:=hMO.out;have HMc:=zh hMc;have HOc:=zh hOc;clear hMO hMc hOc;obtain rfl|rfl|rfl|rfl:i=0∨i=1∨i=2∨i=3:=by omega
         ·have hk:zFj ref r0 r1 r2 1=zFj ref r0 r1 r2 0+(if r0=ref then 1 else 0)∧zBe ref r1 r2 1=if r0=ref then 0 else zBe ref r1 r2 0:=by
           unfold zFj zBe;simp
           try omega
          have Hk:=zh hk;clear hk
          by_cases h:r0=ref
          ·have Hn:Hid (M+1=zFj ref r0 r1 r2 1∧(0:Int)=zBe ref r1 r2 1):=zh ⟨by rw [Hk.out.1,if_pos h,HMc.out],by rw [Hk.out.2,if_pos h]⟩;subst h;go_wp2;exact ⟨⟨1,_,_,by decide,rfl,rfl,rfl,by omega,by omega,zh ⟨by trivial,Hn.out⟩⟩,by simp [intOf]⟩
          ·have Hn:Hid (M=zFj ref r0 r1 r2 1∧O=zBe ref r1 r2 1):=zh ⟨by rw [Hk.out.1,if_neg h,HMc.out,Int.add_zero],by rw [Hk.out.2,if_neg h,HOc.out]⟩;go_wp2;exact ⟨⟨1,_,_,by decide,rfl,rfl,rfl,by omega,by omega,zh ⟨by trivial,Hn.out⟩⟩,by simp [intOf]⟩
         ·have hk:zFj ref r0 r1 r2 2=zFj ref r0 r1 r2 1+(if r1=ref then 1 else 0)∧zBe ref r1 r2 2=if r1=ref then 1 else zBe ref r1 r2 1:=by
           unfold zFj zBe;simp
           try omega
          have Hk:=zh hk;clear hk
          by_cases h:r1=ref
          ·have Hn:Hid (M+1=zFj ref r0 r1 r2 2∧(1:Int)=zBe ref r1 r2 2):=zh ⟨by rw [Hk.out.1,if_pos h,HMc.out],by rw [Hk.out.2,if_pos h]⟩;subst h;go_wp2;exact ⟨⟨2,_,_,by decide,rfl,rfl,rfl,by omega,by omega,zh ⟨by trivial,Hn.out⟩⟩,by simp [intOf]⟩
          ·have Hn:Hid (M=zFj ref r0 r1 r2 2∧O=zBe ref r1 r2 2):=zh ⟨by rw [Hk.out.1,if_neg h,HMc.out,Int.add_zero],by rw [Hk.out.2,if_neg h,HOc.out]⟩;go_wp2;exact ⟨⟨2,_,_,by decide,rfl,rfl,rfl,by omega,by omega,zh ⟨by trivial,Hn.out⟩⟩,by simp [intOf]⟩
         ·have hk:zFj ref r0 r1 r2 3=zFj ref r0 r1 r2 2+(if r2=ref then 1 else 0)∧zBe ref r1 r2 3=if r2=ref then 2 else zBe ref r1 r2 2:=by
           unfold zFj zBe;simp
           try omega
          have Hk:=zh hk;clear hk
          by_cases h:r2=ref
          ·have Hn:Hid (M+1=zFj ref r0 r1 r2 3∧(2:Int)=zBe ref r1 r2 3):=zh ⟨by rw [Hk.out.1,if_pos h,HMc.out],by rw [Hk.out.2,if_pos h]⟩;subst h;go_wp2;exact ⟨⟨3,_,_,by decide,rfl,rfl,rfl,by omega,by omega,zh ⟨by trivial,Hn.out⟩⟩,by simp [intOf]⟩
          ·have Hn:Hid (M=zFj ref r0 r1 r2 3∧O=zBe ref r1 r2 3):=zh ⟨by rw [Hk.out.1,if_neg h,HMc.out,Int.add_zero],by rw [Hk.out.2,if_neg h,HOc.out]⟩;go_wp2;exact ⟨⟨3,_,_,by decide,rfl,rfl,rfl,by omega,by omega,zh ⟨by trivial,Hn.out⟩⟩,by simp [intOf]⟩
         ·by_cases hM:M=1
          ·have hO:O=0∨O=1∨O=2:=by rw [HOc.out];unfold zBe;(repeat' split)<;>simp
           have Hc1:=zh (HMc.out.symm.trans hM)
           rcases hO with hO|hO|hO
           all_goals
            have Ho1:=zh (HOc.out.symm.trans hO);subst hM;subst hO;go_wp2;refine ZU rfl (w.heap.size+1+1) rfl (Hans.out _ _ _ _ (Only.refl _ _) rfl).1 Tryz.underlying42 rfl (by kernel_rfl) rfl ?_;refine ⟨?_,(Hans.out _ _ _ _ (Only.refl _ _) rfl).2⟩;rw [←HF.out,(HX.out _).1,(HX.out _).2,zG6 HL.out Hb.out Hc1.out Ho1.out,zG6 HL.out Hb.out Hc1.out Ho1.out]
            rfl
          ·have Hc1:Hid (¬ zFj ref r0 r1 r2 3=1):=zh (by rw [←HMc.out];exact hM);go_wp2;refine zH (by kernel_rfl) (fun w'=>w'.cell? ⟨w.heap.size+1,0,none⟩=some (.int .i64 X0)∧w'.cell? ⟨w.heap.size+1,1,none⟩=some (.int .i64 Y0)∧w'.cell? ⟨w.heap.size+1,2,none⟩=some (.int .i64 X1)∧w'.cell? ⟨w.heap.size+1,3,none⟩=some (.int .i64 Y1)∧w'.cell? ⟨w.heap.size+1,4,none⟩=some (.int .i64 X2)∧w'.cell? ⟨w.heap.size+1,5,none⟩=some (.int .i64 Y2)) 21 ?_;have hS0:(fun w':World=>w'.cell? ⟨w.heap.size+1,0,none⟩=some (.int .i64 X0)∧w'.cell? ⟨w.heap.size+1,1,none⟩=some (.int .i64 Y0)∧w'.cell? ⟨w.heap.size+1,2,none⟩=some (.int .i64 X1)∧w'.cell? ⟨w.heap.size+1,3,none⟩=some (.int .i64 Y1)∧w'.cell? ⟨w.heap.size+1,4,none⟩=some (.int .i64 X2)∧w'.cell? ⟨w.heap.size+1,5,none⟩=some (.int .i64 Y2)) wr.drew:=⟨v0,v1,v2,v3,v4,v5⟩
           refine AnyL.tk 0 (h:=?_);refine AnyL.tk 1 (h:=?_);refine AnyL.tk 2 (h:=?_);refine AnyL.tk 3 (h:=?_);refine AnyL.tk 4 (h:=?_);refine AnyL.tk 5 (h:=?_);refine AnyL.tk 6 (h:=?_);refine AnyL.tk 7 (h:=?_);refine AnyL.tk 8 (h:=?_);refine AnyL.tk 10 (h:=?_);refine AnyL.tk 11 (h:=?_);refine AnyL.tk 12 (h:=?_);refine AnyL.tk 13 (h:=?_);refine AnyL.tk 14 (h:=?_);refine AnyL.tk 15 (h:=?_);refine AnyL.tk 16 (h:=?_);refine AnyL.tk 17 (h:=?_);refine AnyL.tk 18 (h:=?_);refine AnyL.on 9 (h:=fun K hK=>?_);go_simp;refine (zHE _ _ _ _).mono ?_;rintro e9 w9 ⟨rfl,rfl⟩;refine hK _ _ (fun _=>hS0) (fun hKq=>?_);clear hK K hKq
           try simp only [zpt]
           refine AnyL.on 19 (h:=fun K hK=>?_);go_simp;refine (zHE _ _ _ _).mono ?_;rintro e9 w9 ⟨rfl,rfl⟩;refine hK _ _ (fun _=>hS0) (fun hKq=>?_);clear hK K hKq
           try simp only [zpt]
           refine AnyL.tk 20 (h:=?_);have o0d:wr.drew.cell? ⟨w.heap.size+1+1,0,none⟩=some (.int .i64 0):=o0;have o1d:wr.drew.cell? ⟨w.heap.size+1+1,1,none⟩=some (.int .i64 0):=o1;have p0d:wr.drew.frozen? ⟨w.heap.size+1+1,0,none⟩=false:=p0;have p1d:wr.drew.frozen? ⟨w.heap.size+1+1,1,none⟩=false:=p1;refine AnyL.on 21 (h:=fun K hK=>?_);go_simp;refine hK _ _ (fun h=>absurd rfl h) (fun hKq=>?_);clear hK K hKq
           try simp only [zpt]
           refine AnyL.dn (h:=?_);go_wp2;refine ZU rfl (w.heap.size+1+1) rfl (Hans.out _ _ _ _ (Only.refl [] wr).drew rfl).1 Tryz.underlying42 rfl (by kernel_rfl) rfl ?_;refine ⟨?_,(Hans.out _ _ _ _ (Only.refl [] wr).drew rfl).2⟩;rw [←HF.out,(HX.out _).1,(HX.out _).2,zG7 HL.out Hb.out Hc1.out,zG7 HL.out Hb.out Hc1.out]
def Zd (h:Bool) (r x y:Int):Bool:= !h||(r==0&&(x==0&&y==0))
def zB1 (h0 h1:Bool) (r0 r1 x0 y0 x1 y1:Int) (p:Int):Int:=if (Zd h0 r0 x0 y0||Zd h1 r1 x1 y1)=true then 0 else p
theorem zMj {r0 r1 r2 x0 y0 x1 y1 x2 y2:Int} {h0 h1:Bool} {w:World}:
 Calls Tryz.prog 139 #[.agg #[.int .i64 r0,.int .i64 r1,.int .i64 r2],.agg #[.int .i64 x0,.int .i64 y0,.int .i64 x1,.int .i64 y1,.int .i64 x2,.int .i64 y2],.agg #[.bool h0,.bool h1]] w fun e w'=>
  e=.returned (.agg #[.int .i64 (zB1 h0 h1 r0 r1 x0 y0 x1 y1 (zBN r0 r1 r2 x0 x1 x2 0 (-1))),.int .i64 (zB1 h0 h1 r0 r1 x0 y0 x1 y1 (zBN r0 r1 r2 y0 y1 y2 0 (-1)))])∧Only [] w w':=by
 obtain ⟨wA,hwA⟩:∃ wA,wA=(((w.alloc (.cells #[.int .i64 r0,.int .i64 r1,.int .i64 r2] 188)).alloc (.cells #[.int .i64 x0,.int .i64 y0,.int .i64 x1,.int .i64 y1,.int .i64 x2,.int .i64 y2] 238)).alloc (.cells #[.bool h0,.bool h1] 177)).alloc (.cells #[.int .i64 0,.int .i64 0] 42):=⟨_,rfl⟩;have oA:Only [] w wA:=by rw [hwA];exact ((((Only.refl _ w).alloc _).alloc _).alloc _).alloc _
 have a0:wA.heap[w.heap.size]? =some (.cells #[.int .i64 r0,.int .i64 r1,.int .i64 r2] 188 (0,0)):=by rw [hwA];exact ZE _ (ZE _ (ZE _ (ZA w _)))
 have a1:wA.heap[w.heap.size+1]? =some (.cells #[.int .i64 x0,.int .i64 y0,.int .i64 x1,.int .i64 y1,.int .i64 x2,.int .i64 y2] 238 (0,0)):=by rw [hwA];exact ZE _ (zKO w _ _ _)
 have a2:wA.heap[w.heap.size+1+1]? =some (.cells #[.bool h0,.bool h1] 177 (0,0)):=by rw [hwA];exact ZE _ (zKN w _ _ _)
 have a3:wA.heap[w.heap.size+1+1+1]? =some (.cells #[.int .i64 0,.int .i64 0] 42 (0,0)):=by
  rw [hwA];have:=ZA (((w.alloc (.cells #[.int .i64 r0,.int .i64 r1,.int .i64 r2] 188)).alloc (.cells #[.int .i64 x0,.int .i64 y0,.int .i64 x1,.int .i64 y1,.int .i64 x2,.int .i64 y2] 238)).alloc (.cells #[.bool h0,.bool h1] 177)) (.cells #[.int .i64 0,.int .i64 0] 42)
  simpa using this
 go_enter Tryz.func139,Tryz.ntmps139
 go_wp2_with fail
 rw [←hwA];clear hwA;have v0:=zA a0 0;have v1:=zA a0 1;have v2:=zA a0 2;have u0:=zA a1 0;have u1:=zA a1 1;have u2:=zA a1 2;have u3:=zA a1 3;have u4:=zA a1 4;have u5:=zA a1 5;have b0:=zA a2 0;have b1:=zA a2 1;have z0:=ZB a3 0;have z1:=ZB a3 1;have o0:=zA a3 0;have o1:=zA a3 1;have HA0:=zh a0;have HA1:=zh a1;have HA3:=zh a3;have HO:=zh oA;clear a0 a1 a2 a3 oA
 go_loopw [8] (fun q wx=>∃ i:Nat,i≤2∧q=.int .i64 (i:Int)∧Hid (wx=wA∧(0<i→Zd h0 r0 x0 y0=false)∧(1<i→Zd h1 r1 x1 y1=false))) (fun q _=>(2-intOf q).toNat)
 case atStart=>exact ⟨0,by decide,rfl,zh ⟨rfl,by simp,by simp⟩⟩
 case round=>
  obtain ⟨i,hi,rfl,Hi⟩:=hrel;obtain ⟨hx,hs0,hs1⟩:=Hi.out;subst hx;have HS0:=zh hs0;have HS1:=zh hs1;clear Hi hs0 hs1;obtain rfl|rfl|rfl:i=0∨i=1∨i=2:=by omega
  ·clear HS1;clear HS0
   rcases Bool.eq_false_or_eq_true h0 with c|c
   ·by_cases c0:r0=0
    ·by_cases c1:x0=0
     ·by_cases c2:y0=0
      ·subst c c0 c1 c2
       go_wp2_with fail
       all_goals first
        |(refine ⟨⟨1,by decide,rfl,zh ⟨by trivial,fun _=>?_,fun h=>absurd h (by decide)⟩⟩,by simp [intOf]⟩;simp [Zd];try omega)
        |(refine ⟨⟨1,by decide,rfl,zh (fun h=>absurd h (by decide))⟩,by simp [intOf]⟩;done)
        |(refine ⟨⟨1,by decide,rfl,zh ⟨by trivial,fun _=>?_⟩⟩,by simp [intOf]⟩;simp [Zd];try omega)
        |(refine ZU rfl (w.heap.size+1+1+1) rfl (zB (i:=1) (.int .i64 0) (zB (i:=0) (.int .i64 0) HA3.out)) Tryz.underlying42 rfl (by kernel_rfl) rfl ?_
          refine ⟨?_,(HO.out.setCell (.inr (by simp;omega)) _).setCell (.inr (by simp;omega)) _⟩;simp [zB1,Zd])
      ·subst c c0 c1
       go_wp2_with fail
       all_goals first
        |(refine ⟨⟨1,by decide,rfl,zh ⟨by trivial,fun _=>?_,fun h=>absurd h (by decide)⟩⟩,by simp [intOf]⟩;simp [Zd];try omega)
        |(refine ⟨⟨1,by decide,rfl,zh (fun h=>absurd h (by decide))⟩,by simp [intOf]⟩;done)
        |(refine ⟨⟨1,by decide,rfl,zh ⟨by trivial,fun _=>?_⟩⟩,by simp [intOf]⟩;simp [Zd];try omega)
        |(refine ZU rfl (w.heap.size+1+1+1) rfl (zB (i:=1) (.int .i64 0) (zB (i:=0) (.int .i64 0) HA3.out)) Tryz.underlying42 rfl (by kernel_rfl) rfl ?_
          refine ⟨?_,(HO.out.setCell (.inr (by simp;omega)) _).setCell (.inr (by simp;omega)) _⟩;simp [zB1,Zd])
     ·subst c c0
      go_wp2_with fail
      all_goals first
       |(refine ⟨⟨1,by decide,rfl,zh ⟨by trivial,fun _=>?_,fun h=>absurd h (by decide)⟩⟩,by simp [intOf]⟩;simp [Zd];try omega)
       |(refine ⟨⟨1,by decide,rfl,zh (fun h=>absurd h (by decide))⟩,by simp [intOf]⟩;done)
       |(refine ⟨⟨1,by decide,rfl,zh ⟨by trivial,fun _=>?_⟩⟩,by simp [intOf]⟩;simp [Zd];try omega)
       |(refine ZU rfl (w.heap.size+1+1+1) rfl (zB (i:=1) (.int .i64 0) (zB (i:=0) (.int .i64 0) HA3.out)) Tryz.underlying42 rfl (by kernel_rfl) rfl ?_
         refine ⟨?_,(HO.out.setCell (.inr (by simp;omega)) _).setCell (.inr (by simp;omega)) _⟩;simp [zB1,Zd])
    ·subst c
     go_wp2_with fail
     all_goals first
      |(refine ⟨⟨1,by decide,rfl,zh ⟨by trivial,fun _=>?_,fun h=>absurd h (by decide)⟩⟩,by simp [intOf]⟩;simp [Zd];try omega)
      |(refine ⟨⟨1,by decide,rfl,zh (fun h=>absurd h (by decide))⟩,by simp [intOf]⟩;done)
      |(refine ⟨⟨1,by decide,rfl,zh ⟨by trivial,fun _=>?_⟩⟩,by simp [intOf]⟩;simp [Zd];try omega)
      |(refine ZU rfl (w.heap.size+1+1+1) rfl (zB (i:=1) (.int .i64 0) (zB (i:=0) (.int .i64 0) HA3.out)) Tryz.underlying42 rfl (by kernel_rfl) rfl ?_
        refine ⟨?_,(HO.out.setCell (.inr (by simp;omega)) _).setCell (.inr (by simp;omega)) _⟩;simp [zB1,Zd])
   ·subst c
    go_wp2_with fail
    all_goals first
     |(refine ⟨⟨1,by decide,rfl,zh ⟨by trivial,fun _=>?_,fun h=>absurd h (by decide)⟩⟩,by simp [intOf]⟩;simp [Zd];try omega)
     |(refine ⟨⟨1,by decide,rfl,zh (fun h=>absurd h (by decide))⟩,by simp [intOf]⟩;done)
     |(refine ⟨⟨1,by decide,rfl,zh ⟨by trivial,fun _=>?_⟩⟩,by simp [intOf]⟩;simp [Zd];try omega)
     |(refine ZU rfl (w.heap.size+1+1+1) rfl (zB (i:=1) (.int .i64 0) (zB (i:=0) (.int .i64 0) HA3.out)) Tryz.underlying42 rfl (by kernel_rfl) rfl ?_
       refine ⟨?_,(HO.out.setCell (.inr (by simp;omega)) _).setCell (.inr (by simp;omega)) _⟩;simp [zB1,Zd])
  ·clear HS1;have HS:=zh (HS0.out (by decide));clear HS0
   rcases Bool.eq_false_or_eq_true h1 with c|c
   ·by_cases c0:r1=0
    ·by_cases c1:x1=0
     ·by_cases c2:y1=0
      ·subst c c0 c1 c2
       go_wp2_with fail
       all_goals first
        |(refine ⟨⟨2,by decide,rfl,zh ⟨by trivial,fun _=>HS.out,fun _=>?_⟩⟩,by simp [intOf]⟩;simp [Zd];try omega)
        |(refine ⟨⟨2,by decide,rfl,zh (fun _=>HS.out)⟩,by simp [intOf]⟩;done)
        |(refine ⟨⟨2,by decide,rfl,zh ⟨by trivial,fun _=>?_⟩⟩,by simp [intOf]⟩;simp [Zd];try omega)
        |(refine ZU rfl (w.heap.size+1+1+1) rfl (zB (i:=1) (.int .i64 0) (zB (i:=0) (.int .i64 0) HA3.out)) Tryz.underlying42 rfl (by kernel_rfl) rfl ?_
          refine ⟨?_,(HO.out.setCell (.inr (by simp;omega)) _).setCell (.inr (by simp;omega)) _⟩;simp [zB1,Zd])
      ·subst c c0 c1
       go_wp2_with fail
       all_goals first
        |(refine ⟨⟨2,by decide,rfl,zh ⟨by trivial,fun _=>HS.out,fun _=>?_⟩⟩,by simp [intOf]⟩;simp [Zd];try omega)
        |(refine ⟨⟨2,by decide,rfl,zh (fun _=>HS.out)⟩,by simp [intOf]⟩;done)
        |(refine ⟨⟨2,by decide,rfl,zh ⟨by trivial,fun _=>?_⟩⟩,by simp [intOf]⟩;simp [Zd];try omega)
        |(refine ZU rfl (w.heap.size+1+1+1) rfl (zB (i:=1) (.int .i64 0) (zB (i:=0) (.int .i64 0) HA3.out)) Tryz.underlying42 rfl (by kernel_rfl) rfl ?_
          refine ⟨?_,(HO.out.setCell (.inr (by simp;omega)) _).setCell (.inr (by simp;omega)) _⟩;simp [zB1,Zd])
     ·subst c c0
      go_wp2_with fail
      all_goals first
       |(refine ⟨⟨2,by decide,rfl,zh ⟨by trivial,fun _=>HS.out,fun _=>?_⟩⟩,by simp [intOf]⟩;simp [Zd];try omega)
       |(refine ⟨⟨2,by decide,rfl,zh (fun _=>HS.out)⟩,by simp [intOf]⟩;done)
       |(refine ⟨⟨2,by decide,rfl,zh ⟨by trivial,fun _=>?_⟩⟩,by simp [intOf]⟩;simp [Zd];try omega)
       |(refine ZU rfl (w.heap.size+1+1+1) rfl (zB (i:=1) (.int .i64 0) (zB (i:=0) (.int .i64 0) HA3.out)) Tryz.underlying42 rfl (by kernel_rfl) rfl ?_
         refine ⟨?_,(HO.out.setCell (.inr (by simp;omega)) _).setCell (.inr (by simp;omega)) _⟩;simp [zB1,Zd])
    ·subst c
     go_wp2_with fail
     all_goals first
      |(refine ⟨⟨2,by decide,rfl,zh ⟨by trivial,fun _=>HS.out,fun _=>?_⟩⟩,by simp [intOf]⟩;simp [Zd];try omega)
      |(refine ⟨⟨2,by decide,rfl,zh (fun _=>HS.out)⟩,by simp [intOf]⟩;done)
      |(refine ⟨⟨2,by decide,rfl,zh ⟨by trivial,fun _=>?_⟩⟩,by simp [intOf]⟩;simp [Zd];try omega)
      |(refine ZU rfl (w.heap.size+1+1+1) rfl (zB (i:=1) (.int .i64 0) (zB (i:=0) (.int .i64 0) HA3.out)) Tryz.underlying42 rfl (by kernel_rfl) rfl ?_
        refine ⟨?_,(HO.out.setCell (.inr (by simp;omega)) _).setCell (.inr (by simp;omega)) _⟩;simp [zB1,Zd])
   ·subst c
    go_wp2_with fail
    all_goals first
     |(refine ⟨⟨2,by decide,rfl,zh ⟨by trivial,fun _=>HS.out,fun _=>?_⟩⟩,by simp [intOf]⟩;simp [Zd];try omega)
     |(refine ⟨⟨2,by decide,rfl,zh (fun _=>HS.out)⟩,by simp [intOf]⟩;done)
     |(refine ⟨⟨2,by decide,rfl,zh ⟨by trivial,fun _=>?_⟩⟩,by simp [intOf]⟩;simp [Zd];try omega)
     |(refine ZU rfl (w.heap.size+1+1+1) rfl (zB (i:=1) (.int .i64 0) (zB (i:=0) (.int .i64 0) HA3.out)) Tryz.underlying42 rfl (by kernel_rfl) rfl ?_
       refine ⟨?_,(HO.out.setCell (.inr (by simp;omega)) _).setCell (.inr (by simp;omega)) _⟩;simp [zB1,Zd])
  ·have HS:=zh (HS0.out (by decide));have HT:=zh (HS1.out (by decide));clear HS0 HS1
   go_wp2_with fail
   refine (zBq (by decide)).mono ?_;rintro e w' ⟨rfl,ho⟩;dsimp only;have h3:=ho.heap HA3.out (by simp);have z2:=ZB h3 0;have z3:=ZB h3 1;have o2:=zA h3 0;have o3:=zA h3 1;have H3:=zh h3;have HW:=zh ho;clear h3 ho
   go_wp2_with fail
   refine ZU rfl (w.heap.size+1+1+1) rfl (zB (i:=1) _ (zB (i:=0) _ H3.out)) Tryz.underlying42 rfl (by kernel_rfl) rfl ?_;refine ⟨?_,((HO.out.trans HW.out).setCell (.inr (by simp;omega)) _).setCell (.inr (by simp;omega)) _⟩;unfold zB1;rw [HS.out,HT.out]
   rfl
def zFf (o r:Int):Int:=if 0≤r∧(o<0∨r<o) then r else o
def zBp (r0 r1 r2:Int):Nat→Int
 |0=>-1
 |1=>zFf (-1) r0
 |2=>zFf (zFf (-1) r0) r1
 |_=>zFf (zFf (zFf (-1) r0) r1) r2
theorem di_refs {r0 r1 r2:Int} {w:World}:
 Calls Tryz.prog 140 #[.agg #[.int .i64 r0,.int .i64 r1,.int .i64 r2]] w fun e w'=>e=.returned (.int .i64 (zBp r0 r1 r2 3))∧Only [] w w':=by
 have ix0:∀ wx,(Instr.index 188 (.agg #[.int .i64 r0,.int .i64 r1,.int .i64 r2]) (.int .i64 0)).run Tryz.prog wx=.ok (.int .i64 r0) wx:=fun wx=>Zp 188 3 3 [r0,r1,r2] 0 wx Tryz.underlying188 Tryz.underlying3 (by kernel_rfl) rfl (by decide)
 have ix1:∀ wx,(Instr.index 188 (.agg #[.int .i64 r0,.int .i64 r1,.int .i64 r2]) (.int .i64 1)).run Tryz.prog wx=.ok (.int .i64 r1) wx:=fun wx=>Zp 188 3 3 [r0,r1,r2] 1 wx Tryz.underlying188 Tryz.underlying3 (by kernel_rfl) rfl (by decide)
 have ix2:∀ wx,(Instr.index 188 (.agg #[.int .i64 r0,.int .i64 r1,.int .i64 r2]) (.int .i64 2)).run Tryz.prog wx=.ok (.int .i64 r2) wx:=fun wx=>Zp 188 3 3 [r0,r1,r2] 2 wx Tryz.underlying188 Tryz.underlying3 (by kernel_rfl) rfl (by decide)
 obtain ⟨wA,hwA⟩:∃ wA,wA=w.alloc (.cells #[.int .i64 r0,.int .i64 r1,.int .i64 r2] 188):=⟨_,rfl⟩;have oA:Hid (Only [] w wA):=zh (by rw [hwA];exact (Only.refl _ w).alloc _);have a0:wA.heap[w.heap.size]? =some (.cells #[.int .i64 r0,.int .i64 r1,.int .i64 r2] 188 (0,0)):=by rw [hwA];exact ZA w _
 have v0:=zA a0 0;have v1:=zA a0 1;have v2:=zA a0 2
 go_enter Tryz.func140,Tryz.ntmps140
 go_wp2_with fail
 rw [←hwA];clear hwA a0
 go_wp2_with fail
 clear v0 v1 v2
 go_loopw [7,3] (fun q o wx=>∃ (i:Nat) (O:Int),i≤3∧q=.int .i64 (i:Int)∧o=.int .i64 O∧Hid (wx=wA∧O=zBp r0 r1 r2 i)) (fun q _ _=>(3-intOf q).toNat)
 case atStart=>exact ⟨0,-1,by decide,rfl,rfl,zh ⟨rfl,rfl⟩⟩
 case round=>
  obtain ⟨i,O,hi,rfl,rfl,hx⟩:=hrel;obtain ⟨rfl,hO⟩:=hx.out;have HO:=zh hO;clear hx hO;obtain rfl|rfl|rfl|rfl:i=0∨i=1∨i=2∨i=3:=by omega
  ·have hk:zBp r0 r1 r2 1=zFf O r0:=by rw [HO.out];rfl
   clear HO;have Hk:=zh hk;clear hk
   by_cases h:0≤r0
   ·by_cases h1:O<0
    ·have Hn:Hid (r0=zBp r0 r1 r2 1):=zh (by rw [Hk.out];unfold zFf;rw [if_pos ⟨h,.inl h1⟩]);go_wp2;exact ⟨⟨1,_,by decide,rfl,rfl,zh ⟨by trivial,Hn.out⟩⟩,by simp [intOf]⟩
    ·by_cases h2:r0<O
     ·have Hn:Hid (r0=zBp r0 r1 r2 1):=zh (by rw [Hk.out];unfold zFf;rw [if_pos ⟨h,.inr h2⟩]);go_wp2;exact ⟨⟨1,_,by decide,rfl,rfl,zh ⟨by trivial,Hn.out⟩⟩,by simp [intOf]⟩
     ·have Hn:Hid (O=zBp r0 r1 r2 1):=zh (by rw [Hk.out];unfold zFf;rw [if_neg (by omega)]);go_wp2;exact ⟨⟨1,_,by decide,rfl,rfl,zh ⟨by trivial,Hn.out⟩⟩,by simp [intOf]⟩
   ·have Hn:Hid (O=zBp r0 r1 r2 1):=zh (by rw [Hk.out];unfold zFf;rw [if_neg (by omega)]);go_wp2;exact ⟨⟨1,_,by decide,rfl,rfl,zh ⟨by trivial,Hn.out⟩⟩,by simp [intOf]⟩
  ·have hk:zBp r0 r1 r2 2=zFf O r1:=by rw [HO.out];rfl
   clear HO;have Hk:=zh hk;clear hk
   by_cases h:0≤r1
   ·by_cases h1:O<0
    ·have Hn:Hid (r1=zBp r0 r1 r2 2):=zh (by rw [Hk.out];unfold zFf;rw [if_pos ⟨h,.inl h1⟩]);go_wp2;exact ⟨⟨2,_,by decide,rfl,rfl,zh ⟨by trivial,Hn.out⟩⟩,by simp [intOf]⟩
    ·by_cases h2:r1<O
     ·have Hn:Hid (r1=zBp r0 r1 r2 2):=zh (by rw [Hk.out];unfold zFf;rw [if_pos ⟨h,.inr h2⟩]);go_wp2;exact ⟨⟨2,_,by decide,rfl,rfl,zh ⟨by trivial,Hn.out⟩⟩,by simp [intOf]⟩
     ·have Hn:Hid (O=zBp r0 r1 r2 2):=zh (by rw [Hk.out];unfold zFf;rw [if_neg (by omega)]);go_wp2;exact ⟨⟨2,_,by decide,rfl,rfl,zh ⟨by trivial,Hn.out⟩⟩,by simp [intOf]⟩
   ·have Hn:Hid (O=zBp r0 r1 r2 2):=zh (by rw [Hk.out];unfold zFf;rw [if_neg (by omega)]);go_wp2;exact ⟨⟨2,_,by decide,rfl,rfl,zh ⟨by trivial,Hn.out⟩⟩,by simp [intOf]⟩
  ·have hk:zBp r0 r1 r2 3=zFf O r2:=by rw [HO.out];rfl
   clear HO;have Hk:=zh hk;clear hk
   by_cases h:0≤r2
   ·by_cases h1:O<0
    ·have Hn:Hid (r2=zBp r0 r1 r2 3):=zh (by rw [Hk.out];unfold zFf;rw [if_pos ⟨h,.inl h1⟩]);go_wp2;exact ⟨⟨3,_,by decide,rfl,rfl,zh ⟨by trivial,Hn.out⟩⟩,by simp [intOf]⟩
    ·by_cases h2:r2<O
     ·have Hn:Hid (r2=zBp r0 r1 r2 3):=zh (by rw [Hk.out];unfold zFf;rw [if_pos ⟨h,.inr h2⟩]);go_wp2;exact ⟨⟨3,_,by decide,rfl,rfl,zh ⟨by trivial,Hn.out⟩⟩,by simp [intOf]⟩
     ·have Hn:Hid (O=zBp r0 r1 r2 3):=zh (by rw [Hk.out];unfold zFf;rw [if_neg (by omega)]);go_wp2;exact ⟨⟨3,_,by decide,rfl,rfl,zh ⟨by trivial,Hn.out⟩⟩,by simp [intOf]⟩
   ·have Hn:Hid (O=zBp r0 r1 r2 3):=zh (by rw [Hk.out];unfold zFf;rw [if_neg (by omega)]);go_wp2;exact ⟨⟨3,_,by decide,rfl,rfl,zh ⟨by trivial,Hn.out⟩⟩,by simp [intOf]⟩
  ·go_wp2;go_ret;exact ⟨by rw [HO.out];rfl,oA.out⟩
def zCz (shape:Int):Int:=if shape=0∨shape=1 then 2 else 1
theorem zEk (shape:Int) (w:World):Calls Tryz.prog 142 #[.int .i64 shape] w fun e w'=>e=.returned (.int .i64 (zCz shape))∧w=w':=by
 go_enter Tryz.func142,Tryz.ntmps142
 by_cases h0:shape=0
 ·subst h0;go_wp2;go_ret;exact ⟨rfl,rfl⟩
 ·have b0:(shape==0)=false:=by simp [h0]
  by_cases h1:shape=1
  ·subst h1;go_wp2;go_ret;exact ⟨rfl,rfl⟩
  ·have e:zCz shape=1:=by unfold zCz;rw [if_neg (by omega)]
   rw [e];have b1:(shape==1)=false:=by simp [h1]
   clear e;go_wp2;go_ret;exact ⟨rfl,rfl⟩
def Zv (list:Nat) (dir:Int):Bool:=dir==(list:Int)||dir==2
theorem zBQ (dir:Int) (w:World):Calls Tryz.prog 91 #[.int .i64 dir] w fun e w'=>e=.returned (.agg #[.bool (Zv 0 dir),.bool (Zv 1 dir)])∧Only [] w w':=by
 have hi2:(Tryz.prog.info? 177).map (·.size)=some 2:=by kernel_rfl
 go_enter Tryz.func91,Tryz.ntmps91
 by_cases h0:dir=0
 ·subst h0;go_wp2;exact ZU rfl w.heap.size rfl (ZA w _) Tryz.underlying177 rfl hi2 rfl ⟨rfl,(Only.refl [] w).alloc _⟩
 ·have b0:(dir==0)=false:=by simp [h0]
  by_cases h1:dir=1
  ·subst h1;go_wp2;exact ZU rfl w.heap.size rfl (ZA w _) Tryz.underlying177 rfl hi2 rfl ⟨rfl,(Only.refl [] w).alloc _⟩
  ·have b1:(dir==1)=false:=by simp [h1]
   by_cases h2:dir=2
   ·subst h2;go_wp2;exact ZU rfl w.heap.size rfl (ZA w _) Tryz.underlying177 rfl hi2 rfl ⟨rfl,(Only.refl [] w).alloc _⟩
   ·have e:Zv 0 dir=false∧Zv 1 dir=false:=by unfold Zv;simp [h0,h1,h2]
    rw [e.1,e.2];have b2:(dir==2)=false:=by simp [h2]
    clear e;go_wp2;exact ZU rfl w.heap.size rfl (ZA w _) Tryz.underlying177 rfl hi2 rfl ⟨rfl,(Only.refl [] w).alloc _⟩
def atN (f wide n col row:Nat):Option Nat:=if col<wide∧f≤row*wide+col∧row*wide+col<f+n then some (row*wide+col-f) else none
theorem zNw {w:World} {sb f wide n:Nat} {S:Nat→Value} {D:List Value} (h:StAt w sb S f wide n D) (col row:Nat) (hb:row*wide+col≤100000000):
 Calls Tryz.prog 137 #[.pointer (some ⟨sb,0,none⟩),.int .i64 col,.int .i64 row] w fun e w'=>e=.returned (zm S (atN f wide n col row))∧∃ j,w'=w.drewN j:=by
 by_cases h1:col<wide
 ·by_cases h2:f≤row*wide+col∧row*wide+col<f+n
  ·have e:atN f wide n col row=some (row*wide+col-f):=by unfold atN;rw [if_pos ⟨h1,h2⟩]
   rw [e];exact zDe h col row _ (by omega) h1 (by omega)
  ·have e:atN f wide n col row=none:=by unfold atN;rw [if_neg (fun k=>h2 k.2)]
   rw [e];exact zDf h col row _ rfl h1 hb (by omega)
 ·have e:atN f wide n col row=none:=by unfold atN;rw [if_neg (fun k=>h1 k.1)]
  rw [e];exact (zEo h _ _ (.inr (.inl (by omega)))).mono fun _ _ ⟨h1,h2⟩=>⟨h1,0,by rw [h2];rfl⟩
structure MotIn (w:World) (sb:Nat) (S:Nat→Value) (f wide n:Nat) (ds:List DoneP) (z:Nat→Int):Prop where
 s:StAt w sb S f wide n (zG ds)
 len:ds.length=n
 z:∀ i,i<51→S (24+i)=.int .i64 (z i)
theorem MotIn.only {w w':World} {sb f wide n:Nat} {S:Nat→Value} {ds:List DoneP} {z:Nat→Int} {Y:List Nat} (h:MotIn w sb S f wide n ds z) (ho:Only Y w w') (h1:sb∉Y) (h2:∀ g,(S 23).ownBlock=some g→g∉Y):MotIn w' sb S f wide n ds z:=⟨h.s.only ho h1 h2,h.len,h.z⟩
theorem MotIn.same {w w':World} {sb f wide n:Nat} {S:Nat→Value} {ds:List DoneP} {z:Nat→Int} (h:MotIn w sb S f wide n ds z) (ho:Only [] w w'):MotIn w' sb S f wide n ds z:=⟨h.s.same ho,h.len,h.z⟩
theorem MotIn.cell {w:World} {sb f wide n:Nat} {S:Nat→Value} {ds:List DoneP} {z:Nat→Int} (h:MotIn w sb S f wide n ds z) (i:Nat) (hi:i<51):w.cell? ⟨sb,24+i,none⟩=some (.int .i64 (z i)):=by rw [h.s.s.cell (24+i) (by omega),h.z i hi]
def zM6 (ds:List DoneP) (f wide n:Nat) (z:Nat→Int) (x y:Nat):Option (Int×(Nat→Int)):=
 match atN f wide n (x/2) (y/2) with
 |some k=>(ds[k]?).map fun d=>(d.kind,d.parts)
 |none=>if x/2=(f+n)%wide∧y/2=(f+n)/wide∧z (47+(y%2*2+x%2))<z 46 then some (z 0,fun i=>z (18+i)) else none
def zFh (list k:Nat):Option (Int×(Nat→Int))→Int×Int×Int
 |none=>(-2,0,0)
 |some (kind,ps)=>if za kind=true then (-1,0,0) else if Zv list (ps (7*k))=true then (ps (7*k+1+list),ps (7*k+3+2*list),ps (7*k+4+2*list)) else (-1,0,0)
def zBd (ds:List DoneP) (f wide n:Nat) (z:Nat→Int) (list:Nat) (x y:Int):Int×Int×Int:=
 if x<0∨y<0 then (-2,0,0) else zFh list (y.toNat%2*2+x.toNat%2) (zM6 ds f wide n z x.toNat y.toNat)
def zLw (t:Int×Int×Int):Value:=.tuple #[.int .i64 t.1,.agg #[.int .i64 t.2.1,.int .i64 t.2.2]]
theorem zP {P:Program} {fn:Func} {p q:Tmp} {ty:TypeId} {post:Ending→World→Prop} {a:Act} {w:World} (h:fn.results=#[.tmp q,.cell p ty]) (g:Nat) {t:TypeId} {cs:Array Value} {d:TypeDesc} (u:Value)
 (hp:a.tmps.getD p undef=.pointer (some ⟨g,0,none⟩)) (hq:a.tmps.getD q undef=u) (hg:w.heap[g]? =some (.cells cs t (0,0)))
 (hu:P.underlying ty=some d) (hd:(match d with| .struct _| .array _ _=>true|_=>false)=true) (hi:(P.info? ty).map (·.size)=some cs.size) (hdf:a.defers=[])
 (hpost:post (.returned (.tuple #[u,.agg cs])) w):bodyPost P fn post .ret a w:=by
 have hp':a.tmps[p]?.getD undef=.pointer (some ⟨g,0,none⟩):=by simpa using hp
 have hq':a.tmps[q]?.getD undef=u:=by simpa using hq
 refine bodyPost_ret (v:=.tuple #[u,.agg cs]) ?_ hdf hpost;simp [results,h,hp',hq',asAddr,run_loadVar_row w g t ty cs (0,0) d hg hu hd hi]
theorem ZR {w wA wx:World} (oA:Only [] w wA) (a0:wA.heap[w.heap.size]? =some (.cells #[.int .i64 0,.int .i64 0] 42 (0,0))) (ho:Only [] wA wx) (a b:Int):
 ((wx.setCell ⟨w.heap.size,0,none⟩ (.int .i64 a)).setCell ⟨w.heap.size,1,none⟩ (.int .i64 b)).heap[w.heap.size]? =some (.cells #[.int .i64 a,.int .i64 b] 42 (0,0))∧Only [] w ((wx.setCell ⟨w.heap.size,0,none⟩ (.int .i64 a)).setCell ⟨w.heap.size,1,none⟩ (.int .i64 b)):=
 ⟨zB (i:=1) (.int .i64 b) (zB (i:=0) (.int .i64 a) (ho.heap a0 (by simp))),((oA.trans ho).setCell (.inr (by simp)) _).setCell (.inr (by simp)) _⟩
theorem zHm {sb:Nat} {list:Nat} {x y:Int} {w:World} (h:x<0∨y<0):
 Calls Tryz.prog 172 #[.pointer (some ⟨sb,0,none⟩),.int .i64 x,.int .i64 y,.int .i64 list] w fun e w'=>e=.returned (zLw (-2,0,0))∧Only [] w w':=by
 obtain ⟨wA,hwA⟩:∃ wA,wA=w.alloc (.cells #[.int .i64 0,.int .i64 0] 42):=⟨_,rfl⟩;have oA:Hid (Only [] w wA):=zh (by rw [hwA];exact (Only.refl _ w).alloc _);have a0:wA.heap[w.heap.size]? =some (.cells #[.int .i64 0,.int .i64 0] 42 (0,0)):=by rw [hwA];exact ZA w _
 have z0:=ZB a0 0;have z1:=ZB a0 1;have v0:=zA a0 0;have v1:=zA a0 1;have HA:=zh a0
 rcases Bool.eq_false_or_eq_true (decide (x<0)) with bx|bx
 ·clear h
  go_enter Tryz.func172,Tryz.ntmps172
  go_wp2_with fail
  rw [←hwA];exact zP rfl w.heap.size _ rfl rfl HA.out Tryz.underlying42 rfl (by kernel_rfl) rfl ⟨rfl,oA.out⟩
 ·have hy:decide (y<0)=true:=by
   have:=of_decide_eq_false bx;exact decide_eq_true (by omega)
  clear h
  go_enter Tryz.func172,Tryz.ntmps172
  go_wp2_with fail
  rw [←hwA];exact zP rfl w.heap.size _ rfl rfl HA.out Tryz.underlying42 rfl (by kernel_rfl) rfl ⟨rfl,oA.out⟩
theorem zIv {sb f wide n:Nat} {S:Nat→Value} {ds:List DoneP} {z:Nat→Int} {w:World} (h:MotIn w sb S f wide n ds z) (list:Nat) (hl:list<2) (x y:Nat) (hb:y/2*wide+x/2≤100000000) (hx:x≤1000000000) (hy:y≤1000000000):
 Calls Tryz.prog 172 #[.pointer (some ⟨sb,0,none⟩),.int .i64 x,.int .i64 y,.int .i64 list] w fun e w'=>e=.returned (zLw (zFh list (y%2*2+x%2) (zM6 ds f wide n z x y)))∧Only [] w w':=by
 obtain ⟨wA,hwA⟩:∃ wA,wA=w.alloc (.cells #[.int .i64 0,.int .i64 0] 42):=⟨_,rfl⟩;have oA:Hid (Only [] w wA):=zh (by rw [hwA];exact (Only.refl _ w).alloc _);have a0:wA.heap[w.heap.size]? =some (.cells #[.int .i64 0,.int .i64 0] 42 (0,0)):=by rw [hwA];exact ZA w _
 have HA:=zh a0;have HM:Hid (MotIn wA sb S f wide n ds z):=zh (h.same oA.out);obtain ⟨qx,hqx⟩:∃ q,q=x/2:=⟨_,rfl⟩;obtain ⟨qy,hqy⟩:∃ q,q=y/2:=⟨_,rfl⟩;obtain ⟨mx,hmx⟩:∃ q,q=x%2:=⟨_,rfl⟩;obtain ⟨my,hmy⟩:∃ q,q=y%2:=⟨_,rfl⟩;obtain ⟨col,hcol⟩:∃ q,q=(f+n)%wide:=⟨_,rfl⟩;obtain ⟨row,hrow⟩:∃ q,q=(f+n)/wide:=⟨_,rfl⟩;have iqx:(x:Int)/2=(qx:Int):=by omega
 have iqy:(y:Int)/2=(qy:Int):=by omega
 have imx:(x:Int)%2=(mx:Int):=by omega
 have imy:(y:Int)%2=(my:Int):=by omega
 have bqx:qx≤1000000000:=by omega
 have bqy:qy≤1000000000:=by omega
 have bmx:mx≤1:=by omega
 have bmy:my≤1:=by omega
 have HW:Hid (zM6 ds f wide n z x y=match atN f wide n qx qy with
  |some k=>(ds[k]?).map fun d=>(d.kind,d.parts)
  |none=>if qx=col∧qy=row∧z (47+(my*2+mx))<z 46 then some (z 0,fun i=>z (18+i)) else none):=zh (by rw [hqx,hqy,hmx,hmy,hcol,hrow];rfl)
 have hpl:=zGR HM.out.s;rw [←hcol,←hrow] at hpl;have HP:=zh hpl;rw [←hmx,←hmy];rw [←hqx,←hqy] at hb;obtain ⟨kk,hkk⟩:∃ q,q=my*2+mx:=⟨_,rfl⟩;have ikk:(my:Int)*2+(mx:Int)=(kk:Int):=by omega
 have bkk:kk<4:=by omega
 have ckk:(kk:Int)<4:=by omega
 rw [←hkk] at HW ⊢;obtain ⟨o,ho⟩:∃ o,o=zM6 ds f wide n z x y:=⟨_,rfl⟩;rw [←ho];rw [←ho] at HW;clear hqx hqy hmx hmy hcol hrow hpl hkk ho;have HB:=zh hb;clear h a0 hb
 go_enter Tryz.func172,Tryz.ntmps172
 go_wp2_with fail
 rw [←hwA];clear hwA
 go_wp2_with fail
 refine HP.out.mono ?_;rintro e w1 ⟨rfl,k1,rfl⟩
 go_wp2_with fail
 refine (zNw (HM.out.s.drewN k1) qx qy HB.out).mono ?_;rintro e w2 ⟨rfl,k2,rfl⟩;rw [World.drewN_drewN];generalize k1+k2=k3;have HM2:Hid (MotIn (wA.drewN k3) sb S f wide n ds z):=zh (HM.out.same ((Only.refl [] wA).drewN k3));have OW:Hid (Only [] wA (wA.drewN k3)):=zh ((Only.refl [] wA).drewN k3);generalize wA.drewN k3=w3 at HM2 OW ⊢;clear HM HP HB;obtain ⟨P,hP⟩:∃ P,P=zm S (atN f wide n qx qy):=⟨_,rfl⟩;rw [←hP];dsimp only;have hB:=OW.out.heap HA.out (by simp);have v0:=zA hB 0;have v1:=zA hB 1;have y0:=ZB hB 0;have y1:=ZB hB 1;clear hB;have m0:w3.cell? ⟨sb,70,none⟩=some (.int .i64 (z 46)):=HM2.out.cell 46 (by decide);have m1:w3.cell? ⟨sb,71+kk,none⟩=some (.int .i64 (z (47+kk))):=by
  have:=HM2.out.cell (47+kk) (by omega)
  rwa [show 24+(47+kk)=71+kk by omega] at this
 rcases hat:atN f wide n qx qy with _|k
 ·rw [hat] at hP HW;have HPo:Hid (P=.pointer none):=zh hP;clear hP hat;obtain rfl:=HPo.out;have wqx:=sw (qx:Int) (by omega) (by omega);have wqy:=sw (qy:Int) (by omega) (by omega)
  by_cases h1:qx=col
  ·have b1:(IntKind.i64.wrap (qx:Int) != (col:Int))=false:=by rw [wqx];simp [bne,h1]
   by_cases h2:qy=row
   ·have b2:(IntKind.i64.wrap (qy:Int) != (row:Int))=false:=by rw [wqy];simp [bne,h2]
    by_cases h3:z (47+kk)<z 46
    ·have ho:Hid (o=some (z 0,fun i=>z (18+i))):=zh (by rw [HW.out];dsimp only;rw [if_pos ⟨h1,h2,h3⟩]);have b4:decide (z 46≤z (47+kk))=false:=decide_eq_false (by omega);clear h1 h2 h3 wqx wqy
     go_upto_region 6 with fail
     go_quiet (fail)
     rename_i nq;have k0:(w3.drewN nq).cell? ⟨sb,24,none⟩=some (.int .i64 (z 0)):=HM2.out.cell 0 (by decide);obtain ⟨kd,hkd⟩:∃ q,q=z 0:=⟨_,rfl⟩;rw [←hkd] at k0;obtain ⟨g0,hg0⟩:∃ q,q=(fun i=>z (18+i)) (7*kk):=⟨_,rfl⟩;obtain ⟨g1,hg1⟩:∃ q,q=(fun i=>z (18+i)) (7*kk+1):=⟨_,rfl⟩;obtain ⟨g2,hg2⟩:∃ q,q=(fun i=>z (18+i)) (7*kk+2):=⟨_,rfl⟩;obtain ⟨g3,hg3⟩:∃ q,q=(fun i=>z (18+i)) (7*kk+3):=⟨_,rfl⟩;obtain ⟨g4,hg4⟩:∃ q,q=(fun i=>z (18+i)) (7*kk+4):=⟨_,rfl⟩;obtain ⟨g5,hg5⟩:∃ q,q=(fun i=>z (18+i)) (7*kk+5):=⟨_,rfl⟩;obtain ⟨g6,hg6⟩:∃ q,q=(fun i=>z (18+i)) (7*kk+6):=⟨_,rfl⟩;have cell:∀ j,18+j<51→(w3.drewN nq).cell? ⟨sb,42+j,none⟩=some (.int .i64 (z (18+j))):=fun j hj=>by
      have:=HM2.out.cell (18+j) hj
      rwa [show 24+(18+j)=42+j by omega] at this
     have p0:(w3.drewN nq).cell? ⟨sb,42+kk*7,none⟩=some (.int .i64 g0):=by rw [hg0,Nat.mul_comm kk 7];exact cell _ (by omega)
     have p1:(w3.drewN nq).cell? ⟨sb,42+kk*7+1,none⟩=some (.int .i64 g1):=by rw [hg1,Nat.mul_comm kk 7,Nat.add_assoc];exact cell _ (by omega)
     have p2:(w3.drewN nq).cell? ⟨sb,42+kk*7+2,none⟩=some (.int .i64 g2):=by rw [hg2,Nat.mul_comm kk 7,Nat.add_assoc];exact cell _ (by omega)
     have p3:(w3.drewN nq).cell? ⟨sb,42+kk*7+3,none⟩=some (.int .i64 g3):=by rw [hg3,Nat.mul_comm kk 7,Nat.add_assoc];exact cell _ (by omega)
     have p4:(w3.drewN nq).cell? ⟨sb,42+kk*7+4,none⟩=some (.int .i64 g4):=by rw [hg4,Nat.mul_comm kk 7,Nat.add_assoc];exact cell _ (by omega)
     have p5:(w3.drewN nq).cell? ⟨sb,42+kk*7+5,none⟩=some (.int .i64 g5):=by rw [hg5,Nat.mul_comm kk 7,Nat.add_assoc];exact cell _ (by omega)
     have p6:(w3.drewN nq).cell? ⟨sb,42+kk*7+6,none⟩=some (.int .i64 g6):=by rw [hg6,Nat.mul_comm kk 7,Nat.add_assoc];exact cell _ (by omega)
     have HO:Hid (zFh list kk o=if za kd=true then (-1,0,0) else if Zv list g0=true then (if list=0 then (g1,g3,g4) else (g2,g5,g6)) else (-1,0,0)):=zh (by
      rw [ho.out,hkd,hg0,hg1,hg2,hg3,hg4,hg5,hg6];unfold zFh;obtain rfl|rfl:list=0∨list=1:=by omega
      ·rfl
      ·rfl)
     have OX:Hid (Only [] wA (w3.drewN nq)):=zh (OW.out.drewN nq);clear hkd hg0 hg1 hg2 hg3 hg4 hg5 hg6 cell
     go_upto_region 9 with fail
     generalize w3.drewN nq=w5 at k0 p0 p1 p2 p3 p4 p5 p6 OX ⊢;clear v0 v1 y0 y1 m0 m1;have hB:=OX.out.heap HA.out (by simp);have v0:=zA hB 0;have v1:=zA hB 1;have y0:=ZB hB 0;have y1:=ZB hB 1;clear hB
     go_wp2_with fail
     refine (zDD _ _).mono ?_;rintro e w4 ⟨rfl,rfl⟩
     rcases hwi:za kd with _|_
     ·rw [hwi] at HO;have a0:=ZA w5 (.cells #[.int .i64 0,.int .i64 0,.int .i64 0,.int .i64 0,.int .i64 0,.int .i64 0,.int .i64 0] 45);have x0:=ZB a0 0;have x1:=ZB a0 1;have x2:=ZB a0 2;have x3:=ZB a0 3;have x4:=ZB a0 4;have x5:=ZB a0 5;have x6:=ZB a0 6;have c0:=zA a0 0;have c1:=zA a0 1;have c2:=zA a0 2;have c3:=zA a0 3;have c4:=zA a0 4;have c5:=zA a0 5;have c6:=zA a0 6;clear a0
      go_wp2_with fail
      refine (zBQ _ _).mono ?_;rintro e w4 ⟨rfl,o4⟩;have hC:=o4.heap (ZA w5 (.cells #[.int .i64 g0,.int .i64 g1,.int .i64 g2,.int .i64 g3,.int .i64 g4,.int .i64 g5,.int .i64 g6] 45)) (by simp);have OY:Hid (Only [] wA w4):=zh ((OX.out.alloc _).trans o4);have hB:=OY.out.heap HA.out (by simp);clear o4 p0 p1 p2 p3 p4 p5 p6 k0 v0 v1 y0 y1 x0 x1 x2 x3 x4 x5 x6 c0 c1 c2 c3 c4 c5 c6;have v0:=zA hB 0;have v1:=zA hB 1;have y0:=ZB hB 0;have y1:=ZB hB 1;have c1:=zA hC 1;have c2:=zA hC 2;have c3:=zA hC 3;have c4:=zA hC 4;have c5:=zA hC 5;have c6:=zA hC 6;clear hB hC;obtain ⟨B0,hB0⟩:∃ b,b=Zv 0 g0:=⟨_,rfl⟩;obtain ⟨B1,hB1⟩:∃ b,b=Zv 1 g0:=⟨_,rfl⟩;rw [←hB0,←hB1];have i0:∀ w,(Instr.index 177 (.agg #[.bool B0,.bool B1]) (.int .i64 0)).run Tryz.prog w=.ok (.bool B0) w:=fun _=>by kernel_rfl
      have i1:∀ w,(Instr.index 177 (.agg #[.bool B0,.bool B1]) (.int .i64 1)).run Tryz.prog w=.ok (.bool B1) w:=fun _=>by kernel_rfl
      obtain rfl|rfl:list=0∨list=1:=by omega
      ·rw [←hB0] at HO;clear hB0 hB1 i1
       cases B0
       ·go_wp2_with fail
        refine zP rfl w.heap.size _ rfl rfl (ZR oA.out HA.out OY.out 0 0).1 Tryz.underlying42 rfl (by kernel_rfl) rfl ⟨?_,(ZR oA.out HA.out OY.out 0 0).2⟩;rw [HO.out]
        rfl
       ·go_upto_region 14 with fail
        go_region
        go_wp2_with fail
        refine zP rfl w.heap.size _ rfl rfl (ZR oA.out HA.out OY.out g3 g4).1 Tryz.underlying42 rfl (by kernel_rfl) rfl ⟨?_,(ZR oA.out HA.out OY.out g3 g4).2.drew⟩;rw [HO.out]
        rfl
      ·rw [←hB1] at HO;clear hB0 hB1 i0
       cases B1
       ·go_wp2_with fail
        refine zP rfl w.heap.size _ rfl rfl (ZR oA.out HA.out OY.out 0 0).1 Tryz.underlying42 rfl (by kernel_rfl) rfl ⟨?_,(ZR oA.out HA.out OY.out 0 0).2⟩;rw [HO.out]
        rfl
       ·go_upto_region 14 with fail
        go_region
        go_wp2_with fail
        refine zP rfl w.heap.size _ rfl rfl (ZR oA.out HA.out OY.out g5 g6).1 Tryz.underlying42 rfl (by kernel_rfl) rfl ⟨?_,(ZR oA.out HA.out OY.out g5 g6).2.drew⟩;rw [HO.out]
        rfl
     ·rw [hwi] at HO
      go_wp2_with fail
      refine zP rfl w.heap.size _ rfl rfl (ZR oA.out HA.out OX.out 0 0).1 Tryz.underlying42 rfl (by kernel_rfl) rfl ⟨?_,(ZR oA.out HA.out OX.out 0 0).2⟩;rw [HO.out]
      rfl
    ·have ho:o=none:=by rw [HW.out];dsimp only;rw [if_neg (fun h=>h3 h.2.2)]
     subst ho;have b3:z 46≤z (47+kk):=by omega
     clear h1 h2 h3 wqx wqy;have b4:decide (z 46≤z (47+kk))=true:=decide_eq_true b3
     go_upto_region 6 with fail
     go_quiet (fail)
     rename_i nq
     go_wp2_with fail
     exact zP rfl w.heap.size _ rfl rfl (ZR oA.out HA.out (OW.out.drewN nq) 0 0).1 Tryz.underlying42 rfl (by kernel_rfl) rfl ⟨rfl,(ZR oA.out HA.out (OW.out.drewN nq) 0 0).2⟩
   ·have B2:Hid (((qy:Int) != (row:Int))=true):=zh (by simp [bne];omega);have B1:Hid (((qx:Int) != (col:Int))=false):=zh (by simp [bne,h1]);have ho:o=none:=by rw [HW.out];dsimp only;rw [if_neg (fun h=>h2 h.2.1)]
    subst ho;clear h1 h2 wqx wqy b1
    go_upto_region 6 with fail
    refine wp_region_quiet_lit (by kernel_rfl) (by kernel_rfl) ?_
    iterate 4 (go_big_quiet_step (fail))
    rw [B1.out]
    iterate 5 (go_big_quiet_step (fail))
    rw [B2.out]
    repeat (go_big_quiet_step (fail))
    refine wpQuiet_nil ?_;intro _ hw';obtain ⟨nq,hw''⟩:=hw';subst hw''
    go_wp2_with fail
    exact zP rfl w.heap.size _ rfl rfl (ZR oA.out HA.out (OW.out.drewN nq) 0 0).1 Tryz.underlying42 rfl (by kernel_rfl) rfl ⟨rfl,(ZR oA.out HA.out (OW.out.drewN nq) 0 0).2⟩
  ·have B1:Hid (((qx:Int) != (col:Int))=true):=zh (by simp [bne];omega);have ho:o=none:=by rw [HW.out];dsimp only;rw [if_neg (fun h=>h1 h.1)]
   subst ho;clear h1 wqx wqy
   go_upto_region 6 with fail
   refine wp_region_quiet_lit (by kernel_rfl) (by kernel_rfl) ?_
   iterate 4 (go_big_quiet_step (fail))
   rw [B1.out]
   repeat (go_big_quiet_step (fail))
   refine wpQuiet_nil ?_;intro _ hw';obtain ⟨nq,hw''⟩:=hw';subst hw''
   go_wp2_with fail
   exact zP rfl w.heap.size _ rfl rfl (ZR oA.out HA.out (OW.out.drewN nq) 0 0).1 Tryz.underlying42 rfl (by kernel_rfl) rfl ⟨rfl,(ZR oA.out HA.out (OW.out.drewN nq) 0 0).2⟩
 ·have hkn:k<n:=by
   have h9:=hat;unfold atN at h9
   split at h9
   ·rename_i h8;have:qy*wide+qx-f=k:=by simpa using h9
    omega
   ·cases h9
  obtain ⟨d,hd⟩:∃ d,ds[k]? =some d:=⟨_,List.getElem?_eq_getElem (by rw [HM2.out.len];exact hkn)⟩;obtain ⟨a,cap,-,hg⟩:=HM2.out.s.slice;obtain ⟨g,-,hg⟩:=hg (by omega);have ho:Hid (o=some (d.kind,d.parts)):=zh (by rw [HW.out,hat];dsimp only;rw [hd];rfl);have HPo:Hid (P=.pointer (some ⟨g,k*46,none⟩)):=zh (by rw [hP,hat];simp only [zm,hg,Option.getD_some]);have k0:=HM2.out.s.cell (j:=0) hd (by decide) (zD2 d) hg;rw [Nat.add_zero] at k0;have cell:∀ j,j<28→w3.cell? ⟨g,k*46+18+j,none⟩=some (.int .i64 (d.parts j)):=fun j hj=>by
   have:=HM2.out.s.cell hd (j:=18+j) (by omega) (zJK d j hj) hg
   rwa [←Nat.add_assoc] at this
  clear hP hat hd hg HW;obtain rfl:=HPo.out;clear HPo;obtain ⟨kd,hkd⟩:∃ q,q=d.kind:=⟨_,rfl⟩;rw [←hkd] at k0;obtain ⟨g0,hg0⟩:∃ q,q=d.parts (7*kk):=⟨_,rfl⟩;obtain ⟨g1,hg1⟩:∃ q,q=d.parts (7*kk+1):=⟨_,rfl⟩;obtain ⟨g2,hg2⟩:∃ q,q=d.parts (7*kk+2):=⟨_,rfl⟩;obtain ⟨g3,hg3⟩:∃ q,q=d.parts (7*kk+3):=⟨_,rfl⟩;obtain ⟨g4,hg4⟩:∃ q,q=d.parts (7*kk+4):=⟨_,rfl⟩;obtain ⟨g5,hg5⟩:∃ q,q=d.parts (7*kk+5):=⟨_,rfl⟩;obtain ⟨g6,hg6⟩:∃ q,q=d.parts (7*kk+6):=⟨_,rfl⟩;have p0:(w3).cell? ⟨g,k*46+18+kk*7,none⟩=some (.int .i64 g0):=by rw [hg0,Nat.mul_comm kk 7];exact cell _ (by omega)
  have p1:(w3).cell? ⟨g,k*46+18+kk*7+1,none⟩=some (.int .i64 g1):=by rw [hg1,Nat.mul_comm kk 7,Nat.add_assoc];exact cell _ (by omega)
  have p2:(w3).cell? ⟨g,k*46+18+kk*7+2,none⟩=some (.int .i64 g2):=by rw [hg2,Nat.mul_comm kk 7,Nat.add_assoc];exact cell _ (by omega)
  have p3:(w3).cell? ⟨g,k*46+18+kk*7+3,none⟩=some (.int .i64 g3):=by rw [hg3,Nat.mul_comm kk 7,Nat.add_assoc];exact cell _ (by omega)
  have p4:(w3).cell? ⟨g,k*46+18+kk*7+4,none⟩=some (.int .i64 g4):=by rw [hg4,Nat.mul_comm kk 7,Nat.add_assoc];exact cell _ (by omega)
  have p5:(w3).cell? ⟨g,k*46+18+kk*7+5,none⟩=some (.int .i64 g5):=by rw [hg5,Nat.mul_comm kk 7,Nat.add_assoc];exact cell _ (by omega)
  have p6:(w3).cell? ⟨g,k*46+18+kk*7+6,none⟩=some (.int .i64 g6):=by rw [hg6,Nat.mul_comm kk 7,Nat.add_assoc];exact cell _ (by omega)
  have HO:Hid (zFh list kk o=if za kd=true then (-1,0,0) else if Zv list g0=true then (if list=0 then (g1,g3,g4) else (g2,g5,g6)) else (-1,0,0)):=zh (by
   rw [ho.out,hkd,hg0,hg1,hg2,hg3,hg4,hg5,hg6];unfold zFh;obtain rfl|rfl:list=0∨list=1:=by omega
   ·rfl
   ·rfl)
  have OX:Hid (Only [] wA (w3)):=zh (OW.out);clear hkd hg0 hg1 hg2 hg3 hg4 hg5 hg6 cell
  go_upto_region 9 with fail
  generalize w3=w5 at k0 p0 p1 p2 p3 p4 p5 p6 OX ⊢;clear v0 v1 y0 y1 m0 m1;have hB:=OX.out.heap HA.out (by simp);have v0:=zA hB 0;have v1:=zA hB 1;have y0:=ZB hB 0;have y1:=ZB hB 1;clear hB
  go_wp2_with fail
  refine (zDD _ _).mono ?_;rintro e w4 ⟨rfl,rfl⟩
  rcases hwi:za kd with _|_
  ·rw [hwi] at HO;have a0:=ZA w5 (.cells #[.int .i64 0,.int .i64 0,.int .i64 0,.int .i64 0,.int .i64 0,.int .i64 0,.int .i64 0] 45);have x0:=ZB a0 0;have x1:=ZB a0 1;have x2:=ZB a0 2;have x3:=ZB a0 3;have x4:=ZB a0 4;have x5:=ZB a0 5;have x6:=ZB a0 6;have c0:=zA a0 0;have c1:=zA a0 1;have c2:=zA a0 2;have c3:=zA a0 3;have c4:=zA a0 4;have c5:=zA a0 5;have c6:=zA a0 6;clear a0
   go_wp2_with fail
   refine (zBQ _ _).mono ?_;rintro e w4 ⟨rfl,o4⟩;have hC:=o4.heap (ZA w5 (.cells #[.int .i64 g0,.int .i64 g1,.int .i64 g2,.int .i64 g3,.int .i64 g4,.int .i64 g5,.int .i64 g6] 45)) (by simp);have OY:Hid (Only [] wA w4):=zh ((OX.out.alloc _).trans o4);have hB:=OY.out.heap HA.out (by simp);clear o4 p0 p1 p2 p3 p4 p5 p6 k0 v0 v1 y0 y1 x0 x1 x2 x3 x4 x5 x6 c0 c1 c2 c3 c4 c5 c6;have v0:=zA hB 0;have v1:=zA hB 1;have y0:=ZB hB 0;have y1:=ZB hB 1;have c1:=zA hC 1;have c2:=zA hC 2;have c3:=zA hC 3;have c4:=zA hC 4;have c5:=zA hC 5;have c6:=zA hC 6;clear hB hC;obtain ⟨B0,hB0⟩:∃ b,b=Zv 0 g0:=⟨_,rfl⟩;obtain ⟨B1,hB1⟩:∃ b,b=Zv 1 g0:=⟨_,rfl⟩;rw [←hB0,←hB1];have i0:∀ w,(Instr.index 177 (.agg #[.bool B0,.bool B1]) (.int .i64 0)).run Tryz.prog w=.ok (.bool B0) w:=fun _=>by kernel_rfl
   have i1:∀ w,(Instr.index 177 (.agg #[.bool B0,.bool B1]) (.int .i64 1)).run Tryz.prog w=.ok (.bool B1) w:=fun _=>by kernel_rfl
   obtain rfl|rfl:list=0∨list=1:=by omega
   ·rw [←hB0] at HO;clear hB0 hB1 i1
    cases B0
    ·go_wp2_with fail
     refine zP rfl w.heap.size _ rfl rfl (ZR oA.out HA.out OY.out 0 0).1 Tryz.underlying42 rfl (by kernel_rfl) rfl ⟨?_,(ZR oA.out HA.out OY.out 0 0).2⟩;rw [HO.out]
     rfl
    ·go_upto_region 14 with fail
     go_region
     go_wp2_with fail
     refine zP rfl w.heap.size _ rfl rfl (ZR oA.out HA.out OY.out g3 g4).1 Tryz.underlying42 rfl (by kernel_rfl) rfl ⟨?_,(ZR oA.out HA.out OY.out g3 g4).2.drew⟩;rw [HO.out]
     rfl
   ·rw [←hB1] at HO;clear hB0 hB1 i0
    cases B1
    ·go_wp2_with fail
     refine zP rfl w.heap.size _ rfl rfl (ZR oA.out HA.out OY.out 0 0).1 Tryz.underlying42 rfl (by kernel_rfl) rfl ⟨?_,(ZR oA.out HA.out OY.out 0 0).2⟩;rw [HO.out]
     rfl
    ·go_upto_region 14 with fail
     go_region
     go_wp2_with fail
     refine zP rfl w.heap.size _ rfl rfl (ZR oA.out HA.out OY.out g5 g6).1 Tryz.underlying42 rfl (by kernel_rfl) rfl ⟨?_,(ZR oA.out HA.out OY.out g5 g6).2.drew⟩;rw [HO.out]
     rfl
  ·rw [hwi] at HO
   go_wp2_with fail
   refine zP rfl w.heap.size _ rfl rfl (ZR oA.out HA.out OX.out 0 0).1 Tryz.underlying42 rfl (by kernel_rfl) rfl ⟨?_,(ZR oA.out HA.out OX.out 0 0).2⟩;rw [HO.out]
   rfl
end Go.Proofs.YtcppbdlmcbjmeaaGreatDoor
