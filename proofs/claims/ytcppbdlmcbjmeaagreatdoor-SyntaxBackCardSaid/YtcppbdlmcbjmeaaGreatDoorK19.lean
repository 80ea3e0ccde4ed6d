/- Lemmas that the law needs, part 19. -/
import Derived.Test.YtcppbdlmcbjmeaaGreatDoorK16
import Derived.Test.YtcppbdlmcbjmeaaGreatDoorK17
set_option maxHeartbeats 1600000
set_option maxRecDepth 100000
namespace Go.Proofs.YtcppbdlmcbjmeaaGreatDoor
open Go.RowKit
def zDY (A:Int→Bool) (ds:List DoneP) (o:Option Nat):Bool:=match o with
 |none=>false
 |some k=>match ds[k]? with
  |none=>false
  |some d=>A d.kind
def zAH (A:Int→Bool) (ds:List DoneP) (f wide n:Nat):Int:=zl (zDY A ds (Zb f wide n))+zl (zDY A ds (Zw wide n))
theorem zBL (b:Bool):0≤zl b∧zl b≤1:=by cases b<;>decide
theorem zEN (A:Int→Bool) (ds:List DoneP) (f wide n:Nat):0≤zAH A ds f wide n∧zAH A ds f wide n≤2:=by
 unfold zAH;have:=zBL (zDY A ds (Zb f wide n));have:=zBL (zDY A ds (Zw wide n));omega
theorem zJp (g o:Nat) (k:Int) (w:World) (h:w.cell? ⟨g,o,none⟩=some (.int .i64 k)):Calls Tryz.prog 63 #[.pointer (some ⟨g,o,none⟩)] w fun e w'=>e=.returned (.bool (k != 3))∧w=w':=by
 go_enter Tryz.func63,Tryz.ntmps63
 go_wp2;go_ret;exact ⟨rfl,rfl⟩
theorem zMS (g o:Nat) (k:Int) (w:World) (h:w.cell? ⟨g,o,none⟩=some (.int .i64 k)):Calls Tryz.prog 67 #[.pointer (some ⟨g,o,none⟩)] w fun e w'=>e=.returned (.bool (za k))∧w=w':=by
 go_enter Tryz.func67,Tryz.ntmps67
 go_wp2_with fail
 refine (zDD k w).mono ?_;rintro e w' ⟨rfl,rfl⟩;go_wp2;go_ret;exact ⟨rfl,rfl⟩
theorem zIR {w:World} {sb f wide n:Nat} {S:Nat→Value} {ds:List DoneP} (h:StAt w sb S f wide n (zG ds)) (hl:ds.length=n) (A:Int→Bool) (o:Option Nat) (ho:∀ k,o=some k→k<n):
 (zm S o=.pointer none∧zDY A ds o=false)∨∃ g k kd,zm S o=.pointer (some ⟨g,k*46,none⟩)∧w.cell? ⟨g,k*46,none⟩=some (.int .i64 kd)∧zDY A ds o=A kd:=by
 rcases o with _|k
 ·exact .inl ⟨rfl,rfl⟩
 ·have hk:=ho k rfl;obtain ⟨a,cap,hv,hg⟩:=h.slice;obtain ⟨g,rfl,hg2⟩:=hg (by omega);obtain ⟨d,hd⟩:∃ d,ds[k]? =some d:=⟨ds[k],List.getElem?_eq_getElem (by omega)⟩;refine .inr ⟨g,k,d.kind,by simp [zm,hg2],?_,by simp [zDY,hd]⟩;have:=h.cell hd (j:=0) (by decide) (zD2 d) hg2;rw [Nat.add_zero] at this;exact this
theorem zN2:Elt Tryz.prog 198 160 (.pointer none) 1 8:=⟨Tryz.underlying198,by kernel_rfl,rfl,by decide⟩
theorem zGT {w:World} {sb f wide n fid:Nat} {S:Nat→Value} {ds:List DoneP} {A:Int→Bool} (h:StAt w sb S f wide n (zG ds)) (hl:ds.length=n)
 (hent:∀ (args:Array Value) (w:World),(callFunc fid args).run Tryz.prog w=.ok (.enter fid args) w) (hA:∀ (g o:Nat) (k:Int) (w:World),w.cell? ⟨g,o,none⟩=some (.int .i64 k)→Calls Tryz.prog fid #[.pointer (some ⟨g,o,none⟩)] w fun e w'=>e=.returned (.bool (A k))∧w=w'):
 Calls Tryz.prog 62 #[.pointer (some ⟨sb,0,none⟩),.func (.func fid) #[] #[]] w fun e w'=>e=.returned (.int .i64 (zAH A ds f wide n))∧Only [] w w':=by
 have hL:=zIR h hl A (Zb f wide n) (fun k hk=>zGe hk);have hT:=zIR h hl A (Zw wide n) (fun k hk=>zHX h.bw.1 hk);have hN:=zDd h;unfold zAH;generalize zDY A ds (Zb f wide n)=la at*;generalize zDY A ds (Zw wide n)=ta at*;generalize zm S (Zb f wide n)=p1 at*;generalize zm S (Zw wide n)=p2 at*;have HL:=zh hL;have HT:=zh hT;have HN:=zh hN;have HA:=zh hA;clear h hL hT hN hA hl
 go_enter Tryz.func62,Tryz.ntmps62
 go_wp2_with fail
 refine HN.out.mono ?_;rintro e w1 ⟨rfl,k1,hw1⟩;have O1:Hid (Only [] w w1):=zh (by rw [hw1];exact (Only.refl [] w).drewN k1);have hfill:Hid (Instr.fill (fun i=>some (i*1,1)) ((Array.range (2*1)).map (#[(.pointer none:Value)][·%1]!)) [(0,p1),(1,p2)]=some #[p1,p2]):=zh (by
  rcases HL.out with ⟨rfl,_⟩|⟨g,k,kd,rfl,_⟩<;>rcases HT.out with ⟨rfl,_⟩|⟨g',k',kd',rfl,_⟩<;>kernel_rfl)
 clear hw1 HN
 go_wp2_with (refine zFZ rfl _ 2 _ rfl zN2 rfl #[p1,p2] (by decide) (by decide) (Eq.trans (by kernel_rfl) hfill.out) ?_)
 have O2:Hid (Only [] w (w1.alloc (.cells #[p1,p2] 160))):=zh (O1.out.alloc _);have hb2:=ZA w1 (.cells #[p1,p2] 160);generalize w1.alloc (.cells #[p1,p2] 160)=w2 at*;generalize w1.heap.size=g0 at*;have c0:w2.cell? ⟨g0,0,none⟩=some p1:=by rw [zA hb2];rfl
 have c1:w2.cell? ⟨g0,1,none⟩=some p2:=by rw [zA hb2];rfl
 clear hb2
 go_loop [7,19] (fun a q=>(q=.int .i64 0∧a=.int .i64 0)∨(q=.int .i64 1∧a=.int .i64 (zl la))∨(q=.int .i64 2∧a=.int .i64 (zl la+zl ta))) (fun _ q=>2-(intOf q).toNat)
 case atStart=>exact .inl ⟨rfl,rfl⟩
 case round=>
  rcases hrel with ⟨rfl,rfl⟩|⟨rfl,rfl⟩|⟨rfl,rfl⟩
  ·rcases HL.out with ⟨rfl,rfl⟩|⟨g,k,kd,rfl,hc,rfl⟩
   ·clear HL HT;go_wp2
    go_round
    case rel=>exact .inr (.inl ⟨rfl,rfl⟩)
    case measure=>simp [intOf]
   ·have hc2:=O2.out.cell hc (by simp);have Hc2:=zh hc2;clear HL HT hc hc2
    go_wp2_with fail
    refine (HA.out g (k*46) kd w2 Hc2.out).mono ?_;rintro e w3 ⟨rfl,rfl⟩
    cases hak:A kd with
    |true=>
     go_wp2
     go_round
     case rel=>exact .inr (.inl ⟨rfl,by rw [hak];rfl⟩)
     case measure=>simp [intOf]
    |false=>
     go_wp2
     go_round
     case rel=>exact .inr (.inl ⟨rfl,by rw [hak];rfl⟩)
     case measure=>simp [intOf]
  ·have hfl:=zBL la
   rcases HT.out with ⟨rfl,rfl⟩|⟨g,k,kd,rfl,hc,rfl⟩
   ·clear HL HT;go_wp2
    go_round
    case rel=>exact .inr (.inr ⟨rfl,by simp [zl]⟩)
    case measure=>simp [intOf]
   ·have hc2:=O2.out.cell hc (by simp);have Hc2:=zh hc2;clear HL HT hc hc2
    go_wp2_with fail
    refine (HA.out g (k*46) kd w2 Hc2.out).mono ?_;rintro e w3 ⟨rfl,rfl⟩
    cases hak:A kd with
    |true=>
     go_wp2
     go_round
     case rel=>exact .inr (.inr ⟨rfl,by simp [zl,hak]⟩)
     case measure=>simp [intOf]
    |false=>
     go_wp2
     go_round
     case rel=>exact .inr (.inr ⟨rfl,by simp [zl,hak]⟩)
     case measure=>simp [intOf]
  ·clear HL HT;go_wp2;go_ret;exact ⟨rfl,O2.out⟩
structure Ran (c:Cod) (F0:List Nat) (w0 w:World) (sb mb:Nat) (S X:Nat→Value) (n:Nat) (D:List Value) (F:List Nat) (r:List Ask) (G:List Nat):Prop where
 s:BlkIn w sb 75 106 S
 m:BlkIn w mb 483 51 X
 a:w.ownsRow 0 103 46 (S 23) n D
 c:c.C F r w
 ns:sb∉F
 nm:mb∉F
 na:∀ g,(S 23).ownBlock=some g→g∉F
 o:Only (sb::mb::(F0++G)) w0 w
 n:∀ i∈F,i∈F0∨w0.heap.size≤i
 ga:∀ g,(S 23).ownBlock=some g→g∈G∨w0.heap.size≤g
theorem Scene.here {c:Cod} {F0 F:List Nat} {w0 w:World} {kb sb mb n:Nat} {S X:Nat→Value} {D:List Value} {r:List Ask} (h:Scene c F0 w0 w kb sb mb S X n D F r):Scene c F w w kb sb mb S X n D F r where
 k:=h.k
 s:=h.s
 m:=h.m
 a:=h.a
 c:=h.c
 nk:=h.nk
 ns:=h.ns
 nm:=h.nm
 na:=h.na
 o:=Only.refl _ _
 n:=fun _ hi=> .inl hi
 l:=⟨lt_of_block h.k,h.s.lt,h.m.lt⟩
theorem Ran.back {c:Cod} {F0 F1 F:List Nat} {w0 w1 w:World} {sb mb n:Nat} {S X:Nat→Value} {D:List Value} {r:List Ask} {G H:List Nat} (h:Ran c F1 w1 w sb mb S X n D F r G) (ho:Only (sb::mb::(F0++H)) w0 w1) (hn:∀ i∈F1,i∈F0∨w0.heap.size≤i) (hG:∀ g∈G,g∈H∨w0.heap.size≤g):Ran c F0 w0 w sb mb S X n D F r H where
 s:=h.s
 m:=h.m
 a:=h.a
 c:=h.c
 ns:=h.ns
 nm:=h.nm
 na:=h.na
 o:=ho.trans' h.o (fun i hi=>by
  simp only [List.mem_cons,List.mem_append] at hi ⊢
  rcases hi with rfl|rfl|hi|hi
  ·exact .inl (.inl rfl)
  ·exact .inl (.inr (.inl rfl))
  ·rcases hn i hi with h1|h1
   ·exact .inl (.inr (.inr (.inl h1)))
   ·exact .inr h1
  ·rcases hG i hi with h1|h1
   ·exact .inl (.inr (.inr (.inr h1)))
   ·exact .inr h1)
 n:=fun i hi=>(h.n i hi).elim (hn i) (fun h1=> .inr (Nat.le_trans ho.size h1))
 ga:=fun g hg=>(h.ga g hg).elim (hG g) (fun h1=> .inr (Nat.le_trans ho.size h1))
theorem Ran.more {c:Cod} {F0 F:List Nat} {w0 w:World} {sb mb n:Nat} {S X:Nat→Value} {D:List Value} {r:List Ask} {G H:List Nat} (h:Ran c F0 w0 w sb mb S X n D F r G) (hG:∀ g∈G,g∈H):Ran c F0 w0 w sb mb S X n D F r H:=
 ⟨h.s,h.m,h.a,h.c,h.ns,h.nm,h.na,h.o.mono (fun i hi=>by
  simp only [List.mem_cons,List.mem_append] at hi ⊢
  rcases hi with h1|h1|h1|h1
  ·exact .inl h1
  ·exact .inr (.inl h1)
  ·exact .inr (.inr (.inl h1))
  ·exact .inr (.inr (.inr (hG i h1)))),h.n,fun g hg=>(h.ga g hg).elim (fun h1=> .inl (hG g h1)) .inr⟩
theorem Scene.keep {c:Cod} {F0 F:List Nat} {w0 w:World} {kb sb mb n:Nat} {S X:Nat→Value} {D:List Value} {r:List Ask} {d:DoneP} (h:Scene c F0 w0 w kb sb mb S X n D F r) (hc:c.Ok)
 (h0:X 0=.int .i64 d.kind) (h48:X 48=.int .i64 d.cbp) (hmd:∀ i,i<16→X (2+i)=.int .i64 (d.modes i)) (hpt:∀ i,i<28→X (20+i)=.int .i64 (d.parts i)) (hn:n≤1000000):
 Calls Tryz.prog 104 #[.pointer (some ⟨sb,0,none⟩),.pointer (some ⟨mb,0,none⟩)] w fun e w'=>e=.returned (.tuple #[])∧∃ v',Ran c F0 w0 w' sb mb (upd S 23 v') X (n+1) (D++d.cells) F r (S 23).ownBlock.toList:=by
 refine (zMP h.s h.m h.a h0 h48 hmd hpt hn).mono ?_;rintro e w' ⟨rfl,v',h1,h2,h3,h4⟩;have hag:=fun g hg=>h.ag (g:=g) hg
 refine ⟨rfl,v',h1,h.m.only h3 ?_,by rw [ZK];exact h2,hc.keep F r w w' _ h.c h3 ?_,h.ns,h.nm,?_,(h.o.mono ?_).trans' h3 ?_,h.n,?_⟩
 ·simp only [List.mem_cons,Option.mem_toList,not_or];exact ⟨Ne.symm h.sm,fun e=>(hag mb e).2.2.1 rfl⟩
 ·intro i hi hm;simp only [List.mem_cons,Option.mem_toList] at hm
  rcases hm with rfl|hm
  ·exact h.ns hi
  ·exact h.na i hm hi
 ·rw [ZK];intro g hg hi
  rcases h4 g hg with h5|h5
  ·exact h.na g h5 hi
  ·have:=hc.low F r w h.c g hi;omega
 ·intro i hi;simp only [List.mem_cons,List.mem_append] at hi ⊢
  rcases hi with h5|h5|h5
  ·exact .inl h5
  ·exact .inr (.inl h5)
  ·exact .inr (.inr (.inl h5))
 ·intro i hi;simp only [List.mem_cons,List.mem_append,Option.mem_toList] at hi ⊢
  rcases hi with h5|h5
  ·exact .inl (.inl h5)
  ·exact .inl (.inr (.inr (.inr h5)))
 ·rw [ZK];intro g hg
  rcases h4 g hg with h5|h5
  ·exact .inl (by simp [h5])
  ·exact .inr (Nat.le_trans h.o.size h5)
theorem zJe {c:Cod} {F0 F:List Nat} {w0 w:World} {kb sb mb n:Nat} {S X:Nat→Value} {D:List Value} {r:List Ask} {d:DoneP} (h:Scene c F0 w0 w kb sb mb S X n D F r) (hc:c.Ok)
 (h0:X 0=.int .i64 d.kind) (h48:X 48=.int .i64 d.cbp) (hmd:∀ i,i<16→X (2+i)=.int .i64 (d.modes i)) (hpt:∀ i,i<28→X (20+i)=.int .i64 (d.parts i)) (hn:n≤1000000) (hk:d.kind≠3∧d.kind≠5):
 Calls Tryz.prog 65 #[.pointer (some ⟨kb,0,none⟩)] w fun e w'=>e=.returned (.tuple #[])∧∃ v',Ran c F0 w0 w' sb mb (upd S 23 v') X (n+1) (D++d.cells) F r (S 23).ownBlock.toList:=by
 have k0:=h.k0;have k2:=h.k2;have m0:w.cell? ⟨mb,0,none⟩=some (.int .i64 d.kind):=by rw [h.m.cell 0 (by decide),h0]
 have hkp:=h.keep hc h0 h48 hmd hpt hn;obtain ⟨kd,hkd⟩:∃ kd,kd=d.kind:=⟨_,rfl⟩;rw [←hkd] at m0 hk;have e3:(kd==3)=false:=by simpa using hk.1
 have e5:(kd==5)=false:=by simpa using hk.2
 have HK:=zh hkp;clear hkp h hc h0 h48 hmd hpt hkd hk
 go_enter Tryz.func65,Tryz.ntmps65
 go_wp2_with fail
 refine HK.out.mono ?_;rintro e w1 ⟨rfl,v',h1⟩;have H1:=zh h1;clear h1;go_wp2;go_end0;exact ⟨rfl,v',H1.out⟩
end Go.Proofs.YtcppbdlmcbjmeaaGreatDoor
