/- Lemmas that the law needs, part 15. -/
import Derived.Test.YtcppbdlmcbjmeaaGreatDoorK10
import Derived.Test.YtcppbdlmcbjmeaaGreatDoorK14
set_option maxHeartbeats 3200000
set_option maxRecDepth 100000
namespace Go.Proofs.YtcppbdlmcbjmeaaGreatDoor
open Go.RowKit
def vb (x:Int):Prop:=-256≤x∧x≤256
def okL (q:Nat→Int) (k:Nat):Prop:=(Zv k (q 0)=false→q (1+k)=-1∧q (3+2*k)=0∧q (4+2*k)=0)∧vb (q (3+2*k))∧vb (q (4+2*k))
def zDN (t shape:Int) (q:Nat→Int):Prop:=(q 0=3∧t=1∧shape=3∧∀ j,1≤j→j<7→q j=0)∨((0≤q 0∧q 0≤2)∧(t=0→q 0=0)∧∀ k,k<2→okL q k)
def zNF (j:Nat):Int:=if j=0 then 3 else 0
theorem zMd {t shape:Int} {q:Nat→Int} (h:q 0=3):zDN t shape q↔(t=1∧shape=3)∧zAX 7 q zNF=true:=by
 rw [zAy];unfold zDN zNF
 constructor
 ·rintro (⟨-,h1,h2,h3⟩|⟨h1,-⟩)
  ·refine ⟨⟨h1,h2⟩,fun i hi=>?_⟩
   split
   ·rename_i e;rw [e,h]
   ·exact h3 i (by omega) hi
  ·omega
 ·rintro ⟨⟨h1,h2⟩,h3⟩;refine .inl ⟨h,h1,h2,fun j hj hj2=>?_⟩;have:=h3 j hj2
  rwa [if_neg (by omega)] at this
theorem zMc {t shape:Int} {q:Nat→Int} (h:q 0≠3):zDN t shape q↔((0≤q 0∧q 0≤2)∧(t=0→q 0=0))∧∀ k,k<2→okL q k:=by
 unfold zDN
 constructor
 ·rintro (h1|h1)
  ·exact absurd h1.1 h
  ·exact ⟨⟨h1.1,h1.2.1⟩,h1.2.2⟩
 ·exact fun h1=> .inr ⟨h1.1.1,h1.1.2,h1.2⟩
theorem zMg (q:Nat→Int) (t shape:Int) (w:World):Calls Tryz.prog 90 #[zCP q,.int .i64 t,.int .i64 shape,.bool true] w fun e w'=>Tells (zDN t shape q) w e w':=by
 have A0:=ZA w (.cells #[.int .i64 (q 0),.int .i64 (q 1),.int .i64 (q 2),.int .i64 (q 3),.int .i64 (q 4),.int .i64 (q 5),.int .i64 (q 6)] 45);have OA:Hid (Only [] w (w.alloc (.cells #[.int .i64 (q 0),.int .i64 (q 1),.int .i64 (q 2),.int .i64 (q 3),.int .i64 (q 4),.int .i64 (q 5),.int .i64 (q 6)] 45))):=zh ((Only.refl [] w).alloc _);have heq:∀ w,(Op.equalIn 10000 45 (.agg #[.int .i64 (q 0),.int .i64 (q 1),.int .i64 (q 2),.int .i64 (q 3),.int .i64 (q 4),.int .i64 (q 5),.int .i64 (q 6)]) (.agg #[.int .i64 3,.int .i64 0,.int .i64 0,.int .i64 0,.int .i64 0,.int .i64 0,.int .i64 0])).run Tryz.prog w=.ok (zAX 7 q zNF) w:=fun w=>zC9 q zNF 9996 w
 have e3:=zMd (q:=q) (t:=t) (shape:=shape);have en:=zMc (q:=q) (t:=t) (shape:=shape);generalize zAX 7 q zNF=M at*;unfold zCP;obtain ⟨d,hd⟩:∃ d,d=q 0:=⟨_,rfl⟩;rw [←hd] at A0 OA heq e3 en ⊢;have E3:=zh e3;have En:=zh en;have Hd:=zh hd;clear e3 en hd;have c0:(w.alloc (.cells #[.int .i64 d,.int .i64 (q 1),.int .i64 (q 2),.int .i64 (q 3),.int .i64 (q 4),.int .i64 (q 5),.int .i64 (q 6)] 45)).cell? ⟨w.heap.size,0,none⟩=some (.int .i64 d):=by rw [zA A0];rfl
 have HA:=zh A0;clear A0
 by_cases h3:d=3
 ·subst h3;have hr:(w.alloc (.cells #[.int .i64 3,.int .i64 (q 1),.int .i64 (q 2),.int .i64 (q 3),.int .i64 (q 4),.int .i64 (q 5),.int .i64 (q 6)] 45)).rangeAt w.heap.size 0 [.int .i64 3,.int .i64 (q 1),.int .i64 (q 2),.int .i64 (q 3),.int .i64 (q 4),.int .i64 (q 5),.int .i64 (q 6)]:=fun j v hj=>by
   rw [Nat.zero_add,zA HA.out]
   simpa using hj
  have HR:=zh hr;have HI:=zh (show (Tryz.prog.info? 45).map (·.size)=some 7 by kernel_rfl);have e3:=E3.out rfl;have E3':=zh e3;clear e3 E3 En hr
  by_cases ht:t=1
  ·by_cases hs:shape=3
   ·subst ht hs
    go_enter Tryz.func90,Tryz.ntmps90
    go_wp2_with (refine zAQ 26 rfl ?_)
    refine ⟨?_⟩;refine ZQ (by rfl) 45 _ rfl w.heap.size 0 rfl _ _ HR.out Tryz.underlying45 rfl HI.out ?_;go_wp2;go_ret;exact Tells.of (by rw [E3'.out];simp) OA.out
   ·have Hno:Hid (¬ zDN t shape q):=zh (fun h=>hs (E3'.out.1 h).1.2);have bs:(shape==3)=false:=by simpa using hs
    subst ht
    go_enter Tryz.func90,Tryz.ntmps90
    go_wp2;go_ret;exact Tells.no Hno.out OA.out
  ·have Hno:Hid (¬ zDN t shape q):=zh (fun h=>ht (E3'.out.1 h).1.1);have bt:(t==1)=false:=by simpa using ht
   go_enter Tryz.func90,Tryz.ntmps90
   go_wp2;go_ret;exact Tells.no Hno.out OA.out
 ·have b3:(d==3)=false:=by simpa using h3
  have en:=En.out h3;have EN:=zh en;clear en En E3 heq
  go_enter Tryz.func90,Tryz.ntmps90
  go_wp2_with fail
  refine (zAY _ _ _ _).mono ?_;rintro e w1 ⟨rfl,rfl⟩
  by_cases hd:0≤d∧d≤2
  ·rw [decide_eq_true hd.1,decide_eq_true hd.2,Bool.and_true]
   by_cases hm:t=0∧d≠0
   ·have Hno:Hid (¬ zDN t shape q):=zh (fun h=>hm.2 ((EN.out.1 h).1.2 hm.1));have bd:(d != 0)=true:=by simpa using hm.2
    obtain ⟨rfl,-⟩:=hm;go_wp2;go_ret;exact Tells.no Hno.out OA.out
   ·have EN2:Hid (zDN t shape q↔∀ k,k<2→okL q k):=zh ⟨fun h=>(EN.out.1 h).2,fun h=>EN.out.2 ⟨⟨hd,fun h0=>Classical.byContradiction fun h1=>hm ⟨h0,h1⟩⟩,h⟩⟩;have hcase:(t=0∧d=0)∨(t==0)=false:=by
     by_cases h0:t=0
     ·exact .inl ⟨h0,Classical.byContradiction fun h1=>hm ⟨h0,h1⟩⟩
     ·exact .inr (by simpa using h0)
    have HD:=zh hd;clear EN hd hm
    rcases hcase with ⟨rfl,rfl⟩|h0
    all_goals
     go_wp2_with fail
     refine (zBQ _ _).mono ?_;rintro e w2 ⟨he,o2⟩;have O2:=zh (OA.out.trans o2);have HA2:=zh (o2.heap HA.out (by simp));clear o2 c0;obtain ⟨B0,hB0⟩:∃ b,b=Zv 0 (q 0):=⟨_,rfl⟩;obtain ⟨B1,hB1⟩:∃ b,b=Zv 1 (q 0):=⟨_,rfl⟩;have ix:∀ k:Nat,k<2→∀ w,(Instr.index 177 (.agg #[.bool B0,.bool B1]) (.int .i64 k)).run Tryz.prog w=.ok (.bool (Zv k (q 0))) w:=fun k hk _=>by
      obtain rfl|rfl:k=0∨k=1:=by omega
      ·rw [←hB0];kernel_rfl
      ·rw [←hB1];kernel_rfl
     rw [Hd.out,←hB0,←hB1] at he;subst he;have IX:=zh ix;clear ix hB0 hB1;go_wp2
     go_loopw [47] (fun s wx=>∃ k:Nat,k≤2∧s=.int .i64 k∧Hid (Only [] w2 wx∧∀ i,i<k→okL q i)) (fun s _=>(2-intOf s).toNat)
     case atStart=>exact ⟨0,by decide,rfl,zh ⟨Only.refl _ _,fun i hi=>absurd hi (by omega)⟩⟩
     case round=>
      obtain ⟨k,hk,rfl,Hy⟩:=hrel
      by_cases hlt:k<2
      ·have hix:=IX.out k hlt;have HR:Hid (wr.rangeAt w.heap.size (3+k*2) [.int .i64 (q (3+2*k)),.int .i64 (q (4+2*k))]):=zh (fun j v hj=>by
        rw [zA (Hy.out.1.heap HA2.out (by simp))];obtain rfl|rfl:k=0∨k=1:=by omega
        ·match j,hj with
         |0,hj=>exact hj
         |1,hj=>exact hj
        ·match j,hj with
         |0,hj=>exact hj
         |1,hj=>exact hj)
       have cr:wr.cell? ⟨w.heap.size,1+k,none⟩=some (.int .i64 (q (1+k))):=by
        rw [zA (Hy.out.1.heap HA2.out (by simp))];obtain rfl|rfl:k=0∨k=1:=by omega
        ·rfl
        ·rfl
       obtain ⟨bk,hbk⟩:∃ b,b=Zv k (q 0):=⟨_,rfl⟩;obtain ⟨r,hr⟩:∃ r,r=q (1+k):=⟨_,rfl⟩;obtain ⟨x,hx⟩:∃ x,x=q (3+2*k):=⟨_,rfl⟩;obtain ⟨y,hy⟩:∃ x,x=q (4+2*k):=⟨_,rfl⟩;have HOK:Hid (okL q k↔(bk=false→r=-1∧x=0∧y=0)∧vb x∧vb y):=zh (by rw [hbk,hr,hx,hy];rfl);rw [←hbk] at hix;rw [←hr] at cr;rw [←hx,←hy] at HR;clear hbk hr hx hy;have HI:=zh (show (Tryz.prog.info? 42).map (·.size)=some ([.int .i64 x,.int .i64 y]:List Value).length by show _=some 2;kernel_rfl);have HI2:=zh (show (Tryz.prog.info? 42).map (·.size)=some (#[.int .i64 x,.int .i64 y]:Array Value).size by show _=some 2;kernel_rfl);have O3:Hid (Only [] w wr):=zh (O2.out.trans Hy.out.1);have O4:Hid (Only [] w (wr.alloc (.cells #[.int .i64 x,.int .i64 y] 42))):=zh (O3.out.alloc _)
       have O24:Hid (Only [] w2 (wr.alloc (.cells #[.int .i64 x,.int .i64 y] 42))):=zh (Hy.out.1.alloc _);have A4:=ZA wr (.cells #[.int .i64 x,.int .i64 y] 42);have cx:(wr.alloc (.cells #[.int .i64 x,.int .i64 y] 42)).cell? ⟨wr.heap.size,0,none⟩=some (.int .i64 x):=by rw [zA A4];rfl
       have cy:(wr.alloc (.cells #[.int .i64 x,.int .i64 y] 42)).cell? ⟨wr.heap.size,1,none⟩=some (.int .i64 y):=by rw [zA A4];rfl
       have HR4:Hid ((wr.alloc (.cells #[.int .i64 x,.int .i64 y] 42)).rangeAt wr.heap.size 0 [.int .i64 x,.int .i64 y]):=zh (zAA A4);have cr4:=((Only.refl [] wr).alloc (.cells #[.int .i64 x,.int .i64 y] 42)).cell cr (by simp);clear A4 cr;have HNO:Hid (¬ ((bk=false→r=-1∧x=0∧y=0)∧vb x∧vb y)→¬ zDN _ shape q):=zh (fun h h2=>h (HOK.out.1 (EN2.out.1 h2 k hlt)));have HYES:Hid (((bk=false→r=-1∧x=0∧y=0)∧vb x∧vb y)→∀ i,i<k+1→okL q i):=zh (fun h i hi=>by
        by_cases e:i=k
        ·rw [e];exact HOK.out.2 h
        ·exact Hy.out.2 i (by omega))
       clear HOK Hy;have hbr:bk=true∨(bk=false∧r≠-1)∨(bk=false∧r=-1∧¬ (x=0∧y=0))∨(bk=false∧r=-1∧x=0∧y=0):=by
        cases bk with
        |true=>exact .inl rfl
        |false=>
         by_cases hr:r=-1
         ·by_cases hxy:x=0∧y=0
          ·exact .inr (.inr (.inr ⟨rfl,hr,hxy.1,hxy.2⟩))
          ·exact .inr (.inr (.inl ⟨rfl,hr,hxy⟩))
         ·exact .inr (.inl ⟨rfl,hr⟩)
       have hev:=fun wx=>zKY x y 0 0 9998 wx
       obtain ⟨M,hM⟩:∃ M,M=(x==0&&y==0):=⟨_,rfl⟩;rw [←hM] at hev
       rcases hbr with rfl|⟨rfl,hr⟩|⟨rfl,rfl,hxy⟩|⟨rfl,rfl,rfl,rfl⟩
       ·clear hev hM
        go_wp2_with (with_reducible refine wpList_load_mid rfl 42 _ rfl w.heap.size (3+k*2) rfl _ _ HR.out Tryz.underlying42 rfl HI.out ?_)
        refine (zAY _ _ _ _).mono ?_;rintro e w4 ⟨rfl,rfl⟩
        by_cases hx:vb x
        ·rw [decide_eq_true hx.1,decide_eq_true hx.2,Bool.and_true]
         go_wp2_with fail
         refine (zAY _ _ _ _).mono ?_;rintro e w4 ⟨rfl,rfl⟩
         by_cases hy:vb y
         ·have H9:=zh (HYES.out ⟨fun h=>(by cases h),hx,hy⟩);rw [decide_eq_true hy.1,decide_eq_true hy.2,Bool.and_true];clear HNO HYES hx hy;go_wp2;exact ⟨⟨k+1,by omega,rfl,zh ⟨O24.out,H9.out⟩⟩,by simp [intOf];omega⟩
         ·have Hno:=zh (HNO.out (fun h=>hy h.2.2));rw [show (decide (-256≤y)&&decide (y≤256))=false by simpa [vb] using hy];clear HNO HYES hx hy;go_wp2;go_ret;exact Tells.no Hno.out O4.out
        ·have Hno:=zh (HNO.out (fun h=>hx h.2.1));rw [show (decide (-256≤x)&&decide (x≤256))=false by simpa [vb] using hx];clear HNO HYES hx;go_wp2;go_ret;exact Tells.no Hno.out O4.out
       ·have Hno:=zh (HNO.out (fun h=>hr (h.1 rfl).1));have br:(r != -1)=true:=by simpa using hr
        clear hev hM
        go_wp2_with (with_reducible refine wpList_load_mid rfl 42 _ rfl w.heap.size (3+k*2) rfl _ _ HR.out Tryz.underlying42 rfl HI.out ?_)
        go_ret
        exact Tells.no Hno.out O4.out
       ·have Hno:=zh (HNO.out (fun h=>hxy (h.1 rfl).2));obtain rfl:M=false:=by
         rw [hM]
         cases h:(x==0&&y==0)
         ·rfl
         ·exact absurd (by simpa using h) hxy
        clear hM HNO HYES
        go_wp2_with (first|(with_reducible refine wpList_load_mid rfl 42 _ rfl w.heap.size (3+k*2) rfl _ _ HR.out Tryz.underlying42 rfl HI.out ?_)|refine zAQ 64 rfl ?_)
        refine ⟨?_⟩;refine ZQ (by rfl) 42 _ rfl wr.heap.size 0 rfl _ _ HR4.out Tryz.underlying42 rfl HI.out ?_;go_wp2;go_ret;exact Tells.no Hno.out O4.out
       ·obtain rfl:M=true:=hM;have H9:=zh (HYES.out ⟨fun _=>⟨rfl,rfl,rfl⟩,by unfold vb;decide,by unfold vb;decide⟩);clear HNO HYES
        go_wp2_with (first|(with_reducible refine wpList_load_mid rfl 42 _ rfl w.heap.size (3+k*2) rfl _ _ HR.out Tryz.underlying42 rfl HI.out ?_)|refine zAQ 64 rfl ?_)
        refine ⟨?_⟩;refine ZQ (by rfl) 42 _ rfl wr.heap.size 0 rfl _ _ HR4.out Tryz.underlying42 rfl HI.out ?_
        go_wp2_with fail
        refine (zAY _ _ _ _).mono ?_;rintro e w4 ⟨rfl,rfl⟩;rw [show (decide ((-256:Int)≤0)&&decide ((0:Int)≤256))=true from rfl]
        go_wp2_with fail
        refine (zAY _ _ _ _).mono ?_;rintro e w4 ⟨rfl,rfl⟩;rw [show (decide ((-256:Int)≤0)&&decide ((0:Int)≤256))=true from rfl];go_wp2;exact ⟨⟨k+1,by omega,rfl,zh ⟨O24.out,H9.out⟩⟩,by simp [intOf];omega⟩
      ·obtain rfl:k=2:=by omega
       have Hyes:Hid (zDN _ shape q):=zh (EN2.out.2 Hy.out.2);have O3:=zh (O2.out.trans Hy.out.1);go_wp2;go_ret;exact Tells.yes Hyes.out O3.out
  ·have Hno:Hid (¬ zDN t shape q):=zh (fun h=>hd (EN.out.1 h).1.1);rw [show (decide (0≤d)&&decide (d≤2))=false by simpa using hd];go_wp2;go_ret;exact Tells.no Hno.out OA.out
def zEq (a0 a1:Int) (q:Nat→Int):Prop:=∀ k,k<2→Zv k (q 0)=true→0≤q (1+k)∧q (1+k)≤(if k=0 then a0 else a1)-1
theorem zLE (q:Nat→Int) {a0 a1:Int} {hb:Nat} {w:World} (h7:w.cell? ⟨hb,7,none⟩=some (.int .i64 a0)) (h8:w.cell? ⟨hb,8,none⟩=some (.int .i64 a1)) (ba:(0≤a0∧a0≤8)∧0≤a1∧a1≤8):Calls Tryz.prog 51 #[zCP q,.pointer (some ⟨hb,0,none⟩)] w fun e w'=>Tells (zEq a0 a1 q) w e w':=by
 have A0:=ZA w (.cells #[.int .i64 (q 0),.int .i64 (q 1),.int .i64 (q 2),.int .i64 (q 3),.int .i64 (q 4),.int .i64 (q 5),.int .i64 (q 6)] 45);have OA:Hid (Only [] w (w.alloc (.cells #[.int .i64 (q 0),.int .i64 (q 1),.int .i64 (q 2),.int .i64 (q 3),.int .i64 (q 4),.int .i64 (q 5),.int .i64 (q 6)] 45))):=zh ((Only.refl [] w).alloc _);have c0:(w.alloc (.cells #[.int .i64 (q 0),.int .i64 (q 1),.int .i64 (q 2),.int .i64 (q 3),.int .i64 (q 4),.int .i64 (q 5),.int .i64 (q 6)] 45)).cell? ⟨w.heap.size,0,none⟩=some (.int .i64 (q 0)):=by rw [zA A0];rfl
 have HA:=zh A0;have H7:=zh h7;have H8:=zh h8;have Ba:=zh ba;clear A0 h7 h8 ba;unfold zCP
 go_enter Tryz.func51,Tryz.ntmps51
 go_wp2_with fail
 refine (zBQ _ _).mono ?_;rintro e w2 ⟨he,o2⟩;have O2:=zh (OA.out.trans o2);have HA2:=zh (o2.heap HA.out (by simp));clear o2 c0;obtain ⟨B0,hB0⟩:∃ b,b=Zv 0 (q 0):=⟨_,rfl⟩;obtain ⟨B1,hB1⟩:∃ b,b=Zv 1 (q 0):=⟨_,rfl⟩;have ix:∀ k:Nat,k<2→∀ w,(Instr.index 177 (.agg #[.bool B0,.bool B1]) (.int .i64 k)).run Tryz.prog w=.ok (.bool (Zv k (q 0))) w:=fun k hk _=>by
  obtain rfl|rfl:k=0∨k=1:=by omega
  ·rw [←hB0];kernel_rfl
  ·rw [←hB1];kernel_rfl
 rw [←hB0,←hB1] at he;subst he;have IX:=zh ix;clear ix hB0 hB1;go_wp2
 go_loopw [10] (fun s wx=>∃ k:Nat,k≤2∧s=.int .i64 k∧Hid (Only [] w2 wx∧∀ i,i<k→Zv i (q 0)=true→0≤q (1+i)∧q (1+i)≤(if i=0 then a0 else a1)-1)) (fun s _=>(2-intOf s).toNat)
 case atStart=>exact ⟨0,by decide,rfl,zh ⟨Only.refl _ _,fun i hi=>absurd hi (by omega)⟩⟩
 case round=>
  obtain ⟨k,hk,rfl,Hy⟩:=hrel
  by_cases hlt:k<2
  ·have hix:=IX.out k hlt;have O3:Hid (Only [] w wr):=zh (O2.out.trans Hy.out.1);have cr:wr.cell? ⟨w.heap.size,1+k,none⟩=some (.int .i64 (q (1+k))):=by
    rw [zA (Hy.out.1.heap HA2.out (by simp))];obtain rfl|rfl:k=0∨k=1:=by omega
    ·rfl
    ·rfl
   have c7:=O3.out.cell H7.out (by simp);have c8:=O3.out.cell H8.out (by simp);have hia:∀ w,(Instr.index 40 (.agg #[.int .i64 a0,.int .i64 a1]) (.int .i64 k)).run Tryz.prog w=.ok (.int .i64 (if k=0 then a0 else a1)) w:=fun _=>by
    obtain rfl|rfl:k=0∨k=1:=by omega
    ·kernel_rfl
    ·kernel_rfl
   obtain ⟨bk,hbk⟩:∃ b,b=Zv k (q 0):=⟨_,rfl⟩;obtain ⟨r,hr⟩:∃ r,r=q (1+k):=⟨_,rfl⟩;obtain ⟨ak,hak⟩:∃ r,r=(if k=0 then a0 else a1):=⟨_,rfl⟩;have HNO:Hid (¬ (bk=true→0≤r∧r≤ak-1)→¬ zEq a0 a1 q):=zh (fun h h2=>h (by rw [hbk,hr,hak];exact h2 k hlt));have HYES:Hid ((bk=true→0≤r∧r≤ak-1)→∀ i,i<k+1→Zv i (q 0)=true→0≤q (1+i)∧q (1+i)≤(if i=0 then a0 else a1)-1):=zh (fun h i hi=>by
    by_cases e:i=k
    ·rw [e,←hbk,←hr,←hak];exact h
    ·exact Hy.out.2 i (by omega))
   have hab:0≤ak∧ak≤8:=by rw [hak];split;exact Ba.out.1;exact Ba.out.2
   have hw1:IntKind.i64.wrap (ak-1)=ak-1:=by rw [IntKind.wrap_i64];omega
   rw [←hbk] at hix;rw [←hr] at cr;rw [←hak] at hia;have O23:Hid (Only [] w2 wr):=zh Hy.out.1;clear hbk hr hak Hy
   go_wp2_with fail
   cases bk with
   |false=>
    clear HNO
    go_quiet (fail)
    rename_i nq;have H9:=zh (HYES.out (fun h=>by cases h));have O5:Hid (Only [] w2 (wr.drewN nq)):=zh (O23.out.drewN nq);clear HYES cr c7 c8 hia;generalize wr.drewN nq=w5 at*;go_wp2;exact ⟨⟨k+1,by omega,rfl,zh ⟨O5.out,H9.out⟩⟩,by simp [intOf];omega⟩
   |true=>
    go_quiet ((go_at_call 58;exact Calls.quiet_of_same ((zAY r 0 (ak-1) _).mono fun _ _ ⟨h1,h2⟩=>⟨h1,h2.symm⟩)))
    rename_i nq;have O5:Hid (Only [] w (wr.drewN nq)):=zh (O3.out.drewN nq);have O6:Hid (Only [] w2 (wr.drewN nq)):=zh (O23.out.drewN nq);clear cr c7 c8 hia;generalize wr.drewN nq=w5 at*
    by_cases hr:0≤r∧r≤ak-1
    ·have H9:=zh (HYES.out (fun _=>hr));rw [decide_eq_true hr.1,decide_eq_true hr.2,Bool.and_true];clear hr HYES HNO;go_wp2;exact ⟨⟨k+1,by omega,rfl,zh ⟨O6.out,H9.out⟩⟩,by simp [intOf];omega⟩
    ·have Hno:=zh (HNO.out (fun h=>hr (h rfl)));obtain ⟨b1,hb1⟩:∃ b,b=decide (0≤r):=⟨_,rfl⟩;obtain ⟨b2,hb2⟩:∃ b,b=decide (r≤ak-1):=⟨_,rfl⟩;have hbb:(b1&&b2)=false:=by rw [hb1,hb2];simpa using hr
     rw [←hb1,←hb2];clear hr HYES HNO hb1 hb2
     cases b1<;>cases b2
     case true.true=>cases hbb
     all_goals
      go_wp2;go_ret;exact Tells.no Hno.out O5.out
  ·obtain rfl:k=2:=by omega
   have Hyes:Hid (zEq a0 a1 q):=zh Hy.out.2;have O3:=zh (O2.out.trans Hy.out.1);go_wp2;go_ret;exact Tells.yes Hyes.out O3.out
end Go.Proofs.YtcppbdlmcbjmeaaGreatDoor
