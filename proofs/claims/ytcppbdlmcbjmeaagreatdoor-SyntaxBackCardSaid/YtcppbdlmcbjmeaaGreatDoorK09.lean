/- Lemmas that the law needs, part 9. -/
import Derived.Test.YtcppbdlmcbjmeaaGreatDoorK08
import Derived.Test.YtcppbdlmcbjmeaaGreatDoorProg
import Derived.IntWalk
set_option maxHeartbeats 3200000
set_option maxRecDepth 100000
namespace Go.Proofs.YtcppbdlmcbjmeaaGreatDoor
open Go.RowKit
def fnA (n:Nat) (f:Nat→Value):Array Value:=((List.range n).map f).toArray
theorem zL5 {n i:Nat} (f:Nat→Value) (h:i<n):(fnA n f)[i]? =some (f i):=by simp [fnA,h]
def upd (f:Nat→Value) (i:Nat) (v:Value):Nat→Value:=fun j=>if j=i then v else f j
theorem ZK (f:Nat→Value) (i:Nat) (v:Value):upd f i v i=v:=by simp [upd]
theorem ZN (f:Nat→Value) {i j:Nat} (v:Value) (h:j≠i):upd f i v j=f j:=by simp [upd,h]
theorem zMt (n:Nat) (f:Nat→Value) (i:Nat) (v:Value):(fnA n f).setIfInBounds i v=fnA n (upd f i v):=by
 apply Array.ext'
 unfold fnA upd;simp only [List.setIfInBounds_toArray]
 apply List.ext_getElem?
 intro j;rw [List.getElem?_set]
 by_cases h:i=j
 ·subst h
  by_cases hn:i<n
  ·simp [hn]
  ·simp [hn]
 ·by_cases hn:j<n
  ·have:j≠i:=fun e=>h e.symm
   simp [h,hn,this]
  ·simp [h,hn]
def BlkIn (w:World) (b n:Nat) (t:TypeId) (f:Nat→Value):Prop:=w.heap[b]? =some (.cells (fnA n f) t (0,0))
theorem BlkIn.cell {w:World} {b n:Nat} {t:TypeId} {f:Nat→Value} (h:BlkIn w b n t f) (i:Nat) (hi:i<n):w.cell? ⟨b,i,none⟩=some (f i):=by rw [zA h];exact zL5 f hi
theorem BlkIn.free {w:World} {b n:Nat} {t:TypeId} {f:Nat→Value} (h:BlkIn w b n t f) (i:Nat):w.frozen? ⟨b,i,none⟩=false:=ZB h i
theorem BlkIn.set {w:World} {b n:Nat} {t:TypeId} {f:Nat→Value} (h:BlkIn w b n t f) (i:Nat) (v:Value):BlkIn (w.setCell ⟨b,i,none⟩ v) b n t (upd f i v):=by
 unfold BlkIn;rw [zB _ h,zMt]
theorem BlkIn.other {w:World} {b n c:Nat} {t:TypeId} {f:Nat→Value} (h:BlkIn w b n t f) (i:Nat) (v:Value) (hc:b≠c):BlkIn (w.setCell ⟨c,i,none⟩ v) b n t f:=zC _ h hc
theorem BlkIn.only {w w':World} {S:List Nat} {b n:Nat} {t:TypeId} {f:Nat→Value} (h:BlkIn w b n t f) (ho:Only S w w') (hb:b∉S):BlkIn w' b n t f:=ho.heap h hb
theorem BlkIn.drewN {w:World} {b n:Nat} {t:TypeId} {f:Nat→Value} (h:BlkIn w b n t f) (k:Nat):BlkIn (w.drewN k) b n t f:=h
theorem BlkIn.lt {w:World} {b n:Nat} {t:TypeId} {f:Nat→Value} (h:BlkIn w b n t f):b<w.heap.size:=lt_of_block h
theorem BlkIn.ne {w:World} {a b n m:Nat} {t u:TypeId} {f g:Nat→Value} (h:BlkIn w a n t f) (k:BlkIn w b m u g) (htu:t≠u):a≠b:=by
 rintro rfl;unfold BlkIn at h k;rw [h] at k;simp at k;exact htu k.2
def WkIn (w:World) (kb sb mb:Nat) (cv:Value):Prop:=w.heap[kb]? =some (.cells #[.pointer (some ⟨sb,0,none⟩),cv,.pointer (some ⟨mb,0,none⟩)] 112 (0,0))
theorem WkIn.only {w w':World} {S:List Nat} {kb sb mb:Nat} {cv:Value} (h:WkIn w kb sb mb cv) (ho:Only S w w') (hb:kb∉S):WkIn w' kb sb mb cv:=ho.heap h hb
theorem WkIn.cells {w:World} {kb sb mb:Nat} {cv:Value} (hk:WkIn w kb sb mb cv):w.cell? ⟨kb,0,none⟩=some (.pointer (some ⟨sb,0,none⟩))∧w.cell? ⟨kb,1,none⟩=some cv∧w.cell? ⟨kb,2,none⟩=some (.pointer (some ⟨mb,0,none⟩)):=by
 refine ⟨?_,?_,?_⟩<;>(rw [zA hk];rfl)
inductive Ask where
 |elem (el inc v most:Int)
 |coefs (cs:List Int) (cat inc:Int)
 |raw (v:Int)
structure CGo (S S':List Nat) (w w':World):Prop where
 only:Only S w w'
 new:∀ i∈S',i∈S∨w.heap.size≤i
theorem CGo.refl (S:List Nat) (w:World):CGo S S w w:=⟨Only.refl S w,fun _ h=> .inl h⟩
structure Cod where
 C:List Nat→List Ask→World→Prop
 wr:Bool
 T:TypeId
 pv:Value
 fE:Nat
 fC:Nat
 fR:Nat
structure Cod.Ok (c:Cod):Prop where
 mE:∀ w:World,(method 461 c.T c.pv "zoetrope/syntax.element").run Tryz.prog w=.ok (c.fE,c.pv) w
 mC:∀ w:World,(method 461 c.T c.pv "zoetrope/syntax.coefs").run Tryz.prog w=.ok (c.fC,c.pv) w
 mR:∀ w:World,(method 461 c.T c.pv "zoetrope/syntax.raw").run Tryz.prog w=.ok (c.fR,c.pv) w
 eE:∀ (args:Array Value) (w:World),(callFunc c.fE args).run Tryz.prog w=.ok (.enter c.fE args) w
 eC:∀ (args:Array Value) (w:World),(callFunc c.fC args).run Tryz.prog w=.ok (.enter c.fC args) w
 eR:∀ (args:Array Value) (w:World),(callFunc c.fR args).run Tryz.prog w=.ok (.enter c.fR args) w
 elem:∀ F r w el inc v most v',c.C F (.elem el inc v most::r) w→(c.wr=true→v'=v)→Calls Tryz.prog c.fE #[c.pv,.int .i64 el,.int .i64 inc,.int .i64 v',.int .i64 most] w fun e w'=>e=.returned (.int .i64 v)∧∃ F',c.C F' r w'∧CGo F F' w w'
 raw:∀ F r w v v',c.C F (.raw v::r) w→(c.wr=true→v'=v)→0≤v'→v'≤255→Calls Tryz.prog c.fR #[c.pv,.int .u8 v'] w fun e w'=>e=.returned (.int .u8 v)∧∃ F',c.C F' r w'∧CGo F F' w w'
 coefs:∀ F r w cs cat inc mb off cap (X:Nat→Value),c.C F (.coefs cs cat inc::r) w→BlkIn w mb 483 51 X→off+cs.length≤482→cs.length≤cap→mb∉F→(∀ i,i<cs.length→∃ n,X (off+i)=.int .i64 n)→(c.wr=true→∀ i,i<cs.length→X (off+i)=.int .i64 (cs.getD i 0))→
  Calls Tryz.prog c.fC #[c.pv,.slice (some ⟨mb,off,none⟩) cs.length cap,.int .i64 cat,.int .i64 inc] w fun e w'=>e=.returned (.tuple #[])∧∃ F',c.C F' r w'∧CGo (mb::F) F' w w'∧mb∉F'∧
   BlkIn w' mb 483 51 (fun j=>if off≤j∧j<off+cs.length then .int .i64 (cs.getD (j-off) 0) else X j)
 keep:∀ F r w w' X,c.C F r w→Only X w w'→(∀ i∈F,i∉X)→c.C F r w'
 low:∀ F r w,c.C F r w→∀ i∈F,i<w.heap.size
structure Scene (c:Cod) (F0:List Nat) (w0 w:World) (kb sb mb:Nat) (S X:Nat→Value) (n:Nat) (D:List Value) (F:List Nat) (r:List Ask):Prop where
 k:WkIn w kb sb mb (.iface c.T c.pv)
 s:BlkIn w sb 75 106 S
 m:BlkIn w mb 483 51 X
 a:w.ownsRow 0 103 46 (S 23) n D
 c:c.C F r w
 nk:kb∉F
 ns:sb∉F
 nm:mb∉F
 na:∀ g,(S 23).ownBlock=some g→g∉F
 o:Only (sb::mb::F0) w0 w
 n:∀ i∈F,i∈F0∨w0.heap.size≤i
 l:kb<w0.heap.size∧sb<w0.heap.size∧mb<w0.heap.size
section
variable {c:Cod} {F0 F:List Nat} {w0 w w':World} {kb sb mb n:Nat} {S X:Nat→Value} {D:List Value} {r:List Ask}
theorem Scene.sm (h:Scene c F0 w0 w kb sb mb S X n D F r):sb≠mb:=h.s.ne h.m (by decide)
theorem Scene.km (h:Scene c F0 w0 w kb sb mb S X n D F r):kb≠mb:=by
 rintro rfl;have h1:=h.k;have h2:=h.m;unfold WkIn at h1;unfold BlkIn at h2;rw [h1] at h2;simp at h2
theorem Scene.ks (h:Scene c F0 w0 w kb sb mb S X n D F r):kb≠sb:=by
 rintro rfl;have h1:=h.k;have h2:=h.s;unfold WkIn at h1;unfold BlkIn at h2;rw [h1] at h2;simp at h2
theorem Scene.ag (h:Scene c F0 w0 w kb sb mb S X n D F r) {g:Nat} (hg:(S 23).ownBlock=some g):g≠kb∧g≠sb∧g≠mb∧g<w.heap.size:=by
 obtain ⟨cur,hc⟩:=zD h.a hg;have h1:=h.k;have h2:=h.s;have h3:=h.m;unfold WkIn at h1;unfold BlkIn at h2 h3;refine ⟨?_,?_,?_,lt_of_block hc⟩<;>rintro rfl<;>simp_all
theorem Scene.k0 (h:Scene c F0 w0 w kb sb mb S X n D F r):w.cell? ⟨kb,0,none⟩=some (.pointer (some ⟨sb,0,none⟩)):=h.k.cells.1
theorem Scene.k1 (h:Scene c F0 w0 w kb sb mb S X n D F r):w.cell? ⟨kb,1,none⟩=some (.iface c.T c.pv):=h.k.cells.2.1
theorem Scene.k2 (h:Scene c F0 w0 w kb sb mb S X n D F r):w.cell? ⟨kb,2,none⟩=some (.pointer (some ⟨mb,0,none⟩)):=h.k.cells.2.2
theorem Scene.only {Y:List Nat} (h:Scene c F0 w0 w kb sb mb S X n D F r) (hc:c.Ok) (ho:Only Y w w') (hY:∀ i∈Y,i≠kb∧i≠sb∧i≠mb∧i∉F∧(S 23).ownBlock≠some i∧w0.heap.size≤i):Scene c F0 w0 w' kb sb mb S X n D F r where
 k:=h.k.only ho (fun e=>(hY _ e).1 rfl)
 s:=h.s.only ho (fun e=>(hY _ e).2.1 rfl)
 m:=h.m.only ho (fun e=>(hY _ e).2.2.1 rfl)
 a:=zF h.a fun g hg=>by
  obtain ⟨cur,hc⟩:=zD h.a hg;exact ho.block g (lt_of_block hc) (fun e=>(hY _ e).2.2.2.2.1 hg)
 c:=hc.keep F r w w' Y h.c ho (fun i hi e=>(hY _ e).2.2.2.1 hi)
 nk:=h.nk
 ns:=h.ns
 nm:=h.nm
 na:=h.na
 o:=h.o.trans' ho (fun i hi=> .inr (hY i hi).2.2.2.2.2)
 n:=h.n
 l:=h.l
theorem Scene.same (h:Scene c F0 w0 w kb sb mb S X n D F r) (hc:c.Ok) (ho:Only [] w w'):Scene c F0 w0 w' kb sb mb S X n D F r:=h.only hc ho (fun _ hi=>by cases hi)
theorem Scene.drewN (h:Scene c F0 w0 w kb sb mb S X n D F r) (hc:c.Ok) (k:Nat):Scene c F0 w0 (w.drewN k) kb sb mb S X n D F r:=h.same hc ((Only.refl [] w).drewN k)
theorem Scene.drew (h:Scene c F0 w0 w kb sb mb S X n D F r) (hc:c.Ok):Scene c F0 w0 w.drew kb sb mb S X n D F r:=h.same hc (Only.refl [] w).drew
theorem Scene.setM (h:Scene c F0 w0 w kb sb mb S X n D F r) (hc:c.Ok) (i:Nat) (v:Value):Scene c F0 w0 (w.setCell ⟨mb,i,none⟩ v) kb sb mb S (upd X i v) n D F r where
 k:=zC _ h.k h.km
 s:=h.s.other i v h.sm
 m:=h.m.set i v
 a:=zF h.a fun g hg=>Below.heap_setCell _ _ _ _ (h.ag hg).2.2.1
 c:=hc.keep F r w _ [mb] h.c ((Only.refl [mb] w).setCell (.inl (by simp)) _) (fun i hi e=>h.nm (by rw [List.mem_singleton.1 e] at hi;exact hi))
 nk:=h.nk
 ns:=h.ns
 nm:=h.nm
 na:=h.na
 o:=h.o.setCell (.inl (by simp)) _
 n:=h.n
 l:=h.l
theorem Scene.setS (h:Scene c F0 w0 w kb sb mb S X n D F r) (hc:c.Ok) (i:Nat) (v:Value) (hi:i≠23):Scene c F0 w0 (w.setCell ⟨sb,i,none⟩ v) kb sb mb (upd S i v) X n D F r where
 k:=zC _ h.k h.ks
 s:=h.s.set i v
 m:=h.m.other i v h.sm.symm
 a:=by
  rw [ZN S v (Ne.symm hi)];exact zF h.a fun g hg=>Below.heap_setCell _ _ _ _ (h.ag hg).2.1
 c:=hc.keep F r w _ [sb] h.c ((Only.refl [sb] w).setCell (.inl (by simp)) _) (fun i hi e=>h.ns (by rw [List.mem_singleton.1 e] at hi;exact hi))
 nk:=h.nk
 ns:=h.ns
 nm:=h.nm
 na:=by rw [ZN S v (Ne.symm hi)];exact h.na
 o:=h.o.setCell (.inl (by simp)) _
 n:=h.n
 l:=h.l
theorem Scene.step {F':List Nat} {r':List Ask} (h:Scene c F0 w0 w kb sb mb S X n D F r) (hc:c.C F' r' w') (hg:CGo F F' w w'):Scene c F0 w0 w' kb sb mb S X n D F' r' where
 k:=h.k.only hg.only h.nk
 s:=h.s.only hg.only h.ns
 m:=h.m.only hg.only h.nm
 a:=zF h.a fun g hg2=>by
  obtain ⟨cur,hc⟩:=zD h.a hg2;exact hg.only.block g (lt_of_block hc) (h.na g hg2)
 c:=hc
 nk:=fun e=>(hg.new _ e).elim h.nk (fun h2=>by have:=h.l.1;have:=h.o.size;omega)
 ns:=fun e=>(hg.new _ e).elim h.ns (fun h2=>by have:=h.l.2.1;have:=h.o.size;omega)
 nm:=fun e=>(hg.new _ e).elim h.nm (fun h2=>by have:=h.l.2.2;have:=h.o.size;omega)
 na:=fun g hg2 e=>(hg.new _ e).elim (h.na g hg2) (fun h2=>by have:=(h.ag hg2).2.2.2;omega)
 o:=h.o.trans' hg.only (fun i hi=>(h.n i hi).elim (fun h2=> .inl (by simp [h2])) .inr)
 n:=fun i hi=>(hg.new i hi).elim (h.n i) (fun h2=> .inr (Nat.le_trans h.o.size h2))
 l:=h.l
theorem Scene.elem {el inc v most:Int} (h:Scene c F0 w0 w kb sb mb S X n D F (.elem el inc v most::r)) (hc:c.Ok) (v':Int) (hv:c.wr=true→v'=v):
 Calls Tryz.prog c.fE #[c.pv,.int .i64 el,.int .i64 inc,.int .i64 v',.int .i64 most] w fun e w'=>e=.returned (.int .i64 v)∧∃ F',Scene c F0 w0 w' kb sb mb S X n D F' r:=by
 refine (hc.elem F r w el inc v most v' h.c hv).mono ?_;rintro e w' ⟨rfl,F',h1,h2⟩;exact ⟨rfl,F',h.step h1 h2⟩
theorem Scene.raw {v:Int} (h:Scene c F0 w0 w kb sb mb S X n D F (.raw v::r)) (hc:c.Ok) (v':Int) (hv:c.wr=true→v'=v) (h0:0≤v') (h1:v'≤255):
 Calls Tryz.prog c.fR #[c.pv,.int .u8 v'] w fun e w'=>e=.returned (.int .u8 v)∧∃ F',Scene c F0 w0 w' kb sb mb S X n D F' r:=by
 refine (hc.raw F r w v v' h.c hv h0 h1).mono ?_;rintro e w' ⟨rfl,F',h1,h2⟩;exact ⟨rfl,F',h.step h1 h2⟩
end
theorem zAY (x lo hi:Int) (w:World):Calls Tryz.prog 58 #[.int .i64 x,.int .i64 lo,.int .i64 hi] w fun e w'=>e=.returned (.bool (decide (lo≤x)&&decide (x≤hi)))∧w=w':=by
 go_enter Tryz.func58,Tryz.ntmps58
 by_cases h:lo≤x
 ·go_wp2;go_ret;exact ⟨zB2 (by simp [h]),rfl⟩
 ·go_wp2;go_ret;exact ⟨zB2 (by rw [decide_eq_false (show ¬ lo≤x by omega),Bool.false_and]),rfl⟩
def zAX (n:Nat) (a b:Nat→Int):Bool:=(List.range n).all fun i=>a i==b i
theorem zAy {n:Nat} {a b:Nat→Int}:zAX n a b=true↔∀ i,i<n→a i=b i:=by simp [zAX]
theorem zNW {a b:Int} {X:Bool} {w:World}:(if a=b then (Result.ok X w:Result Bool) else Result.ok false w)=Result.ok (a==b&&X) w:=by
 by_cases h:a=b<;>simp [h]
theorem zHM (a b:Int) (D:Nat) (w:World):(Op.equalIn (D+1) 3 (.int .i64 a) (.int .i64 b)).run Tryz.prog w=.ok (a==b) w:=by
 rw [Op.equalIn];simp [run_underlying Tryz.underlying3]
theorem zN1 (a b:Nat→Int) (D:Nat) (w:World):(Op.equalIn (D+2) 39 (.agg #[.int .i64 (a 0),.int .i64 (a 1),.int .i64 (a 2),.int .i64 (a 3),.int .i64 (a 4),.int .i64 (a 5),.int .i64 (a 6),.int .i64 (a 7),.int .i64 (a 8),.int .i64 (a 9),.int .i64 (a 10),.int .i64 (a 11),.int .i64 (a 12),.int .i64 (a 13),.int .i64 (a 14),.int .i64 (a 15)]) (.agg #[.int .i64 (b 0),.int .i64 (b 1),.int .i64 (b 2),.int .i64 (b 3),.int .i64 (b 4),.int .i64 (b 5),.int .i64 (b 6),.int .i64 (b 7),.int .i64 (b 8),.int .i64 (b 9),.int .i64 (b 10),.int .i64 (b 11),.int .i64 (b 12),.int .i64 (b 13),.int .i64 (b 14),.int .i64 (b 15)])).run Tryz.prog w=.ok (zAX 16 a b) w:=by
 have hv:=zHM;have hi:=(show (Tryz.prog.info? 3).map (·.size)=some 1 by kernel_rfl);have hu:=Tryz.underlying39
 cases hq:Tryz.prog.info? 3 with
 |none=>simp [hq] at hi
 |some i=>
  have hs:i.size=1:=by simpa [hq] using hi
  rw [show D+2=(D+1)+1 from rfl,Op.equalIn];simp [run_underlying hu,sizeOf,typeInfo,hq,hs,List.range',part,isAgg,run_underlying Tryz.underlying3,hv];clear hv hi hu hs hq;unfold zAX;rw [show List.range 16=[0,1,2,3,4,5,6,7,8,9,10,11,12,13,14,15] from rfl];simp only [List.all_cons,List.all_nil,zNW]
theorem zOH (a0 a1 b0 b1:Int) (D:Nat) (w:World):(Op.equalIn (D+2) 40 (.agg #[.int .i64 a0,.int .i64 a1]) (.agg #[.int .i64 b0,.int .i64 b1])).run Tryz.prog w=.ok (a0==b0&&a1==b1) w:=by
 have hv:=zHM;have hi:=(show (Tryz.prog.info? 3).map (·.size)=some 1 by kernel_rfl);have hu:=Tryz.underlying40
 cases hq:Tryz.prog.info? 3 with
 |none=>simp [hq] at hi
 |some i=>
  have hs:i.size=1:=by simpa [hq] using hi
  rw [show D+2=(D+1)+1 from rfl,Op.equalIn];simp [run_underlying hu,sizeOf,typeInfo,hq,hs,List.range',part,isAgg,run_underlying Tryz.underlying3,hv]
  repeat' split
  all_goals simp_all
theorem zKY (a0 a1 b0 b1:Int) (D:Nat) (w:World):(Op.equalIn (D+2) 42 (.agg #[.int .i64 a0,.int .i64 a1]) (.agg #[.int .i64 b0,.int .i64 b1])).run Tryz.prog w=.ok (a0==b0&&a1==b1) w:=by
 have hv:=zHM;have hst:=(show ∀ w,(Tryz.prog.stoodInHeld 42)=false from fun _=>by kernel_rfl) w;rw [show D+2=(D+1)+1 from rfl,Op.equalIn];simp [run_underlying Tryz.underlying42,hst,part,isAgg,run_underlying Tryz.underlying3,hv]
 repeat' split
 all_goals simp_all
theorem zMv (a0 a1 a2 a3 b0 b1 b2 b3:Int) (D:Nat) (w:World):(Op.equalIn (D+3) 43 (.agg #[.int .i64 a0,.int .i64 a1,.int .i64 a2,.int .i64 a3]) (.agg #[.int .i64 b0,.int .i64 b1,.int .i64 b2,.int .i64 b3])).run Tryz.prog w=.ok ((a0==b0&&a1==b1)&&(a2==b2&&a3==b3)) w:=by
 have hv:=zKY;have hi:=(show (Tryz.prog.info? 42).map (·.size)=some 2 by kernel_rfl);have hu:=Tryz.underlying43
 cases hq:Tryz.prog.info? 42 with
 |none=>simp [hq] at hi
 |some i=>
  have hs:i.size=2:=by simpa [hq] using hi
  rw [show D+3=(D+2)+1 from rfl,Op.equalIn];simp [run_underlying hu,sizeOf,typeInfo,hq,hs,List.range',part,isAgg,run_underlying Tryz.underlying42,hv];clear hv hi hu hs hq
  repeat' split
  all_goals simp_all
theorem zC9 (a b:Nat→Int) (D:Nat) (w:World):(Op.equalIn (D+4) 45 (.agg #[.int .i64 (a 0),.int .i64 (a 1),.int .i64 (a 2),.int .i64 (a 3),.int .i64 (a 4),.int .i64 (a 5),.int .i64 (a 6)]) (.agg #[.int .i64 (b 0),.int .i64 (b 1),.int .i64 (b 2),.int .i64 (b 3),.int .i64 (b 4),.int .i64 (b 5),.int .i64 (b 6)])).run Tryz.prog w=.ok (zAX 7 a b) w:=by
 have hv:=zMv;have h2:=zOH;have h1:=zHM;have hst:=(show ∀ w,(Tryz.prog.stoodInHeld 45)=false from fun _=>by kernel_rfl) w;rw [show D+4=(D+3)+1 from rfl,Op.equalIn];have hi2:=(show (Tryz.prog.info? 40).map (·.size)=some 2 by kernel_rfl);have hi4:=(show (Tryz.prog.info? 43).map (·.size)=some 4 by kernel_rfl)
 cases hq2:Tryz.prog.info? 40 with
 |none=>simp [hq2] at hi2
 |some i2=>
  have hs2:i2.size=2:=by simpa [hq2] using hi2
  cases hq4:Tryz.prog.info? 43 with
  |none=>simp [hq4] at hi4
  |some i4=>
   have hs4:i4.size=4:=by simpa [hq4] using hi4
   simp [run_underlying Tryz.underlying45,hst,part,isAgg,sizeOf,typeInfo,hq2,hs2,hq4,hs4,run_underlying Tryz.underlying3,run_underlying Tryz.underlying40,run_underlying Tryz.underlying43,hv,h2,h1];clear hv h2 h1 hst hi2 hi4 hs2 hs4 hq2 hq4;unfold zAX;rw [show List.range 7=[0,1,2,3,4,5,6] from rfl];simp only [List.all_cons,List.all_nil]
   by_cases h0:a 0=b 0<;>by_cases h1:a 1=b 1<;>by_cases h2:a 2=b 2<;>by_cases h3:a 3=b 3<;>by_cases h4:a 4=b 4<;>by_cases h5:a 5=b 5<;>by_cases h6:a 6=b 6<;>simp [h0,h1,h2,h3,h4,h5,h6]
theorem zLr (a b:Nat→Int):zAX 28 a b=(zAX 7 a b&&(zAX 7 (fun i=>a (7+i)) (fun i=>b (7+i))&&(zAX 7 (fun i=>a (14+i)) (fun i=>b (14+i))&&zAX 7 (fun i=>a (21+i)) (fun i=>b (21+i))))):=by
 apply Bool.eq_iff_iff.2
 simp only [Bool.and_eq_true,zAy]
 constructor
 ·intro h;exact ⟨fun i hi=>h i (by omega),fun i hi=>h _ (by omega),fun i hi=>h _ (by omega),fun i hi=>h _ (by omega)⟩
 ·rintro ⟨h0,h1,h2,h3⟩ i hi
  by_cases i0:i<7
  ·exact h0 i i0
  ·by_cases i1:i<14
   ·have:=h1 (i-7) (by omega)
    rwa [show 7+(i-7)=i by omega] at this
   ·by_cases i2:i<21
    ·have:=h2 (i-14) (by omega)
     rwa [show 14+(i-14)=i by omega] at this
    ·have:=h3 (i-21) (by omega)
     rwa [show 21+(i-21)=i by omega] at this
theorem zLa (a b:Nat→Int) (D:Nat) (w:World):(Op.equalIn (D+5) 46 (.agg #[.int .i64 (a 0),.int .i64 (a 1),.int .i64 (a 2),.int .i64 (a 3),.int .i64 (a 4),.int .i64 (a 5),.int .i64 (a 6),.int .i64 (a 7),.int .i64 (a 8),.int .i64 (a 9),.int .i64 (a 10),.int .i64 (a 11),.int .i64 (a 12),.int .i64 (a 13),.int .i64 (a 14),.int .i64 (a 15),.int .i64 (a 16),.int .i64 (a 17),.int .i64 (a 18),.int .i64 (a 19),.int .i64 (a 20),.int .i64 (a 21),.int .i64 (a 22),.int .i64 (a 23),.int .i64 (a 24),.int .i64 (a 25),.int .i64 (a 26),.int .i64 (a 27)]) (.agg #[.int .i64 (b 0),.int .i64 (b 1),.int .i64 (b 2),.int .i64 (b 3),.int .i64 (b 4),.int .i64 (b 5),.int .i64 (b 6),.int .i64 (b 7),.int .i64 (b 8),.int .i64 (b 9),.int .i64 (b 10),.int .i64 (b 11),.int .i64 (b 12),.int .i64 (b 13),.int .i64 (b 14),.int .i64 (b 15),.int .i64 (b 16),.int .i64 (b 17),.int .i64 (b 18),.int .i64 (b 19),.int .i64 (b 20),.int .i64 (b 21),.int .i64 (b 22),.int .i64 (b 23),.int .i64 (b 24),.int .i64 (b 25),.int .i64 (b 26),.int .i64 (b 27)])).run Tryz.prog w=.ok (zAX 28 a b) w:=by
 have h0:=fun w=>zC9 a b D w
 have h1:=fun w=>zC9 (fun i=>a (7+i)) (fun i=>b (7+i)) D w
 have h2:=fun w=>zC9 (fun i=>a (14+i)) (fun i=>b (14+i)) D w
 have h3:=fun w=>zC9 (fun i=>a (21+i)) (fun i=>b (21+i)) D w
 simp only [Nat.reduceAdd] at h1 h2 h3;have hi:=(show (Tryz.prog.info? 45).map (·.size)=some 7 by kernel_rfl);have hu:=Tryz.underlying46
 cases hq:Tryz.prog.info? 45 with
 |none=>simp [hq] at hi
 |some i=>
  have hs:i.size=7:=by simpa [hq] using hi
  rw [zLr];generalize zAX 7 a b=e0 at*;generalize zAX 7 (fun i=>a (7+i)) (fun i=>b (7+i))=e1 at*;generalize zAX 7 (fun i=>a (14+i)) (fun i=>b (14+i))=e2 at*;generalize zAX 7 (fun i=>a (21+i)) (fun i=>b (21+i))=e3 at*;rw [show D+5=(D+4)+1 from rfl,Op.equalIn];simp [run_underlying hu,sizeOf,typeInfo,hq,hs,List.range',part,isAgg,run_underlying Tryz.underlying45,h0,h1,h2,h3];clear h0 h1 h2 h3 hi hu hs hq
  cases e0<;>cases e1<;>cases e2<;>cases e3<;>rfl
theorem zKb {P:Program} {t elem:TypeId} {len n:Nat} (hu:P.underlying t=some (.array len elem)) (hi:(P.info? elem).map (·.size)=some n) {xs:Array Value} {D:Nat} {w:World}
 (h:∀ i,i<len→∃ v,(part elem xs (i*n)).run P w=.ok v w∧(Op.equalIn D elem v v).run P w=.ok true w):
 (Op.equalIn (D+1) t (.agg xs) (.agg xs)).run P w=.ok true w:=by
 cases hq:P.info? elem with
 |none=>simp [hq] at hi
 |some i=>
  have hs:i.size=n:=by simpa [hq] using hi
  rw [Op.equalIn];simp [run_underlying hu,sizeOf,typeInfo,hq,hs];have key:∀ (m k:Nat),k+m≤len→Sem.run P (forIn (List.range' k m) ((none:Option Bool),()) fun i __s=>do
   let __do_lift←part elem xs (i*n)
   let __do_lift_1←part elem xs (i*n)
   let __do_lift←Op.equalIn D elem __do_lift __do_lift_1
   if __do_lift=false then pure (ForInStep.done (some false,())) else pure (ForInStep.yield (none,()))) w=.ok (none,()) w:=by
   intro m
   induction m with
   |zero=>intro k _;simp
   |succ m ih=>
    intro k hk;obtain ⟨v,h1,h2⟩:=h k (by omega);rw [List.range'_succ,List.forIn_cons];simp [h1,h2];exact ih (k+1) (by omega)
  rw [key len 0 (by omega)];simp
def zJU (w:World) (v:Value) (s:ByteArray):Prop:=(convert 49 9 v).run Tryz.prog w=.ok (.string s) w
theorem zDE (w:World) (l c:Nat):zJU w (.slice none l c) ByteArray.empty:=run_convert_bytes_nil w 49 5 Tryz.underlying49 Tryz.underlying5 l c 9 Tryz.underlying9
theorem zHl {w:World} {b len cap:Nat} {xs:List Int} (hl:xs.length=len) (h:∀ i,i<len→w.cell? ⟨b,i,none⟩=some (.int .u8 (xs.getD i 0))):zJU w (.slice (some ⟨b,0,none⟩) len cap) (strOfNums xs):=
 run_convert_bytes_arg w 49 5 Tryz.underlying49 Tryz.underlying5 b 0 len cap xs hl (fun i hi=>by rw [Nat.zero_add];exact h i hi) 9 Tryz.underlying9
def csV (y:Nat→Int) (off len:Nat):List Value:=(List.range len).map fun i=> .int .i64 (y (off+i))
theorem zD1 (y:Nat→Int) (off len:Nat):(csV y off len).length=len:=by simp [csV]
theorem zIc (y:Nat→Int) (off len i:Nat) (h:i<len):(csV y off len)[i]? =some (.int .i64 (y (off+i))):=by simp [csV,h]
theorem zH8 (y:Nat→Int) (off len a n:Nat) (h:a+n≤len):(csV y off len).toArray.extract a (a+n)=(csV y (off+a) n).toArray:=by
 apply Array.ext'
 rw [Array.toList_extract]
 apply List.ext_getElem?
 intro j
 show (List.take (a+n-a) (List.drop a (csV y off len)))[j]? =(csV y (off+a) n)[j]?
 rw [show a+n-a=n by omega,List.getElem?_take,List.getElem?_drop]
 by_cases hj:j<n
 ·rw [if_pos hj,zIc y off len _ (by omega),zIc y _ n j hj,Nat.add_assoc]
 ·rw [if_neg hj,List.getElem?_eq_none (by rw [zD1];omega)]
theorem zKa {t:TypeId} {n:Nat} (hu:Tryz.prog.underlying t=some (.array n 3)) (y:Nat→Int) (off D:Nat) (w:World):(Op.equalIn (D+2) t (.agg (csV y off n).toArray) (.agg (csV y off n).toArray)).run Tryz.prog w=.ok true w:=by
 refine zKb (n:=1) hu (by kernel_rfl) fun i hi=>⟨.int .i64 (y (off+i)),?_,by rw [zHM];simp⟩
 rw [Nat.mul_one];simp [part,isAgg,run_underlying Tryz.underlying3,zIc y off n i hi]
theorem zIM {t:TypeId} {d:TypeDesc} {n:Nat} (hu:Tryz.prog.underlying t=some d) (hd:(match d with| .struct _| .array _ _=>true|_=>false)=true) (hi:(Tryz.prog.info? t).map (·.size)=some n) (y:Nat→Int) (off len a:Nat) (h:a+n≤len) (w:World):
 (part t (csV y off len).toArray a).run Tryz.prog w=.ok (.agg (csV y (off+a) n).toArray) w:=by
 cases hq:Tryz.prog.info? t with
 |none=>simp [hq] at hi
 |some i=>
  have hs:i.size=n:=by simpa [hq] using hi
  have he:=zH8 y off len a n h;obtain ⟨xs,hxs⟩:∃ xs,xs=(csV y off len).toArray:=⟨_,rfl⟩;rw [←hxs] at he ⊢;clear hxs
  cases d<;>simp_all [part,isAgg,run_underlying hu,sizeOf,typeInfo]
theorem zL6 {t e:TypeId} {m n:Nat} (hu:Tryz.prog.underlying t=some (.array m e)) (he:Tryz.prog.underlying e=some (.array n 3)) (hi:(Tryz.prog.info? e).map (·.size)=some n) (y:Nat→Int) (off D:Nat) (w:World):
 (Op.equalIn (D+3) t (.agg (csV y off (m*n)).toArray) (.agg (csV y off (m*n)).toArray)).run Tryz.prog w=.ok true w:=by
 refine zKb (n:=n) hu hi fun i hm=>⟨_,zIM he rfl hi y off (m*n) (i*n) ?_ w,zKa he y (off+i*n) D w⟩
 have:(i+1)*n≤m*n:=Nat.mul_le_mul_right n hm;rw [Nat.add_mul] at this;omega
theorem zKZ (y:Nat→Int) (off:Nat) (w:World):(Op.equalIn 10000 46 (.agg (csV y off 28).toArray) (.agg (csV y off 28).toArray)).run Tryz.prog w=.ok true w:=by
 refine zKb (D:=9999) (n:=7) Tryz.underlying46 (by kernel_rfl) fun i hi=>⟨_,zIM (n:=7) Tryz.underlying45 rfl (by kernel_rfl) y off 28 (i*7) (by omega) w,?_⟩
 have h:=zC9 (fun j=>y (off+i*7+j)) (fun j=>y (off+i*7+j)) 9995 w;have ha:zAX 7 (fun j=>y (off+i*7+j)) (fun j=>y (off+i*7+j))=true:=zAy.2 fun _ _=>rfl
 rw [ha] at h;exact h
theorem ZQ {P:Program} {ops:Array Oper} {rest:List Oper} {op:Oper} {a:Act} {w:World} {Q:Exit→Act→World→Prop} (hw:Region.wanted op (yielded ops a.tmps)=true) (ty:TypeId) (x:Operand) (ho:op.op=.load ty x)
 (b o:Nat) (hx:a.eval x=.pointer (some ⟨b,o,none⟩)) (cs:List Value) (d:TypeDesc) (hc:w.rangeAt b o cs)
 (hu:P.underlying ty=some d) (hd:d.isRow=true) (hi:(P.info? ty).map (·.size)=some cs.length)
 (h:wpList P ops Q rest (a.put op.dst (.agg cs.toArray)) w):wpList P ops Q (op::rest) a w:=
 wpList_step fun K hK=>by rw [if_pos hw];exact wp_load_mid ty x ho b o hx cs d hc hu hd hi (hK _ _ h)
theorem BlkIn.csV {w:World} {b:Nat} {t:TypeId} {X:Nat→Value} {y:Nat→Int} (h:BlkIn w b 483 t X) (hX:∀ j,j<482→X j=.int .i64 (y j)) (off len:Nat) (hl:off+len≤482):w.rangeAt b off (csV y off len):=fun j v hj=>by
 have hj2:j<len:=by
  apply Classical.byContradiction
  intro e;rw [List.getElem?_eq_none (by rw [zD1];omega)] at hj
  cases hj
 rw [zIc y off len j hj2] at hj;rw [h.cell (off+j) (by omega),hX (off+j) (by omega),hj]
structure zOI (p:Prop):Prop where
 out:p
theorem zAQ {P:Program} {ops:Array Oper} {rest:List Oper} {o:Oper} {a:Act} {w:World} {Q:Exit→Act→World→Prop} (d:Nat) (_hd:o.dst=some d) (h:zOI (wpList P ops Q (o::rest) a w)):wpList P ops Q (o::rest) a w:=h.out
theorem zJq {Xa Xb:Nat→Value} {y:Nat→Int} {s:ByteArray} {w:World} (ha:∀ j,j<482→Xa j=.int .i64 (y j)) (hb:∀ j,j<482→Xb j=.int .i64 (y j)) (sa:∀ wx,Only [] w wx→zJU wx (Xa 482) s) (sb:∀ wx,Only [] w wx→zJU wx (Xb 482) s):
 Calls Tryz.prog 20 #[.agg (fnA 483 Xa),.agg (fnA 483 Xb)] w fun e w'=>e=.returned (.bool true)∧Only [] w w':=by
 obtain ⟨XA,hXA⟩:∃ XA,XA=fnA 483 Xa:=⟨_,rfl⟩;obtain ⟨XB,hXB⟩:∃ XB,XB=fnA 483 Xb:=⟨_,rfl⟩;have A0:BlkIn ((w.alloc (.cells XA 51)).alloc (.cells XB 51)) w.heap.size 483 51 Xa:=by
  unfold BlkIn;rw [←hXA];exact ZE _ (ZA w _)
 have B0:BlkIn ((w.alloc (.cells XA 51)).alloc (.cells XB 51)) (w.heap.size+1) 483 51 Xb:=by
  unfold BlkIn;have h:=ZA (w.alloc (.cells XA 51)) (.cells XB 51);rw [World.size_alloc] at h;rw [←hXB];exact h
 have O0:=zh (((Only.refl [] w).alloc (.cells XA 51)).alloc (.cells XB 51));have s1:(convert 49 9 (Xa 482)).run Tryz.prog ((w.alloc (.cells XA 51)).alloc (.cells XB 51))=.ok (.string s) ((w.alloc (.cells XA 51)).alloc (.cells XB 51)):=sa _ O0.out;have s2:(convert 49 9 (Xb 482)).run Tryz.prog ((w.alloc (.cells XA 51)).alloc (.cells XB 51))=.ok (.string s) ((w.alloc (.cells XA 51)).alloc (.cells XB 51)):=sb _ O0.out;have ra1:=zh (A0.csV ha 2 16 (by decide));have ra2:=zh (A0.csV ha 20 28 (by decide));have ra3:=zh (A0.csV ha 50 (24*16) (by decide));have ra4:=zh (A0.csV ha 434 (3*16) (by decide));have rb1:=zh (B0.csV hb 2 16 (by decide));have rb2:=zh (B0.csV hb 20 28 (by decide));have rb3:=zh (B0.csV hb 50 (24*16) (by decide));have rb4:=zh (B0.csV hb 434 (3*16) (by decide))
 have ca:∀ j,j<482→((w.alloc (.cells XA 51)).alloc (.cells XB 51)).cell? ⟨w.heap.size,j,none⟩=some (.int .i64 (y j)):=fun j hj=>by rw [A0.cell j (by omega),ha j hj]
 have cb:∀ j,j<482→((w.alloc (.cells XA 51)).alloc (.cells XB 51)).cell? ⟨w.heap.size+1,j,none⟩=some (.int .i64 (y j)):=fun j hj=>by rw [B0.cell j (by omega),hb j hj]
 have a0:=ca 0 (by decide);have a1:=ca 1 (by decide);have a18:=ca 18 (by decide);have a19:=ca 19 (by decide);have a48:=ca 48 (by decide);have a49:=ca 49 (by decide);have a482:=A0.cell 482 (by decide);have b0:=cb 0 (by decide);have b1:=cb 1 (by decide);have b18:=cb 18 (by decide);have b19:=cb 19 (by decide);have b48:=cb 48 (by decide);have b49:=cb 49 (by decide);have b482:=B0.cell 482 (by decide);have q1:∀ wx,(Op.equalIn 10000 39 (.agg (csV y 2 16).toArray) (.agg (csV y 2 16).toArray)).run Tryz.prog wx=.ok true wx:=fun wx=>zKa (D:=9998) Tryz.underlying39 y 2 wx
 have q2:∀ wx,(Op.equalIn 10000 46 (.agg (csV y 20 28).toArray) (.agg (csV y 20 28).toArray)).run Tryz.prog wx=.ok true wx:=fun wx=>zKZ y 20 wx
 have q3:∀ wx,(Op.equalIn 10000 47 (.agg (csV y 50 (24*16)).toArray) (.agg (csV y 50 (24*16)).toArray)).run Tryz.prog wx=.ok true wx:=fun wx=>zL6 (D:=9997) Tryz.underlying47 Tryz.underlying39 (by kernel_rfl) y 50 wx
 have q4:∀ wx,(Op.equalIn 10000 48 (.agg (csV y 434 (3*16)).toArray) (.agg (csV y 434 (3*16)).toArray)).run Tryz.prog wx=.ok true wx:=fun wx=>zL6 (D:=9997) Tryz.underlying48 Tryz.underlying39 (by kernel_rfl) y 434 wx
 have l1:=zh (show (Tryz.prog.info? 39).map (·.size)=some (csV y 2 16).length by rw [zD1];kernel_rfl);have l2:=zh (show (Tryz.prog.info? 46).map (·.size)=some (csV y 20 28).length by rw [zD1];kernel_rfl);have l3:=zh (show (Tryz.prog.info? 47).map (·.size)=some (csV y 50 (24*16)).length by rw [zD1];kernel_rfl);have l4:=zh (show (Tryz.prog.info? 48).map (·.size)=some (csV y 434 (3*16)).length by rw [zD1];kernel_rfl);rw [←hXA,←hXB];clear ca cb A0 B0 ha hb hXA hXB sa sb;generalize Xa 482=pa at*;generalize Xb 482=pb at*;generalize csV y 2 16=M1 at*;generalize csV y 20 28=M2 at*;generalize csV y 50 (24*16)=M3 at*;generalize csV y 434 (3*16)=M4 at*;generalize y 0=y0 at*;generalize y 1=y1 at*;generalize y 18=y18 at*;generalize y 19=y19 at*;generalize y 48=y48 at*;generalize y 49=y49 at*
 go_enter Tryz.func20,Tryz.ntmps20
 go_wp2_with (refine zAQ 11 rfl ?_)
 refine ⟨?_⟩
 (refine wpList_step (fun K hK=>?_);rw [if_pos (by rfl)];go_simp;refine hK _ _ ?_;clear hK K)
 refine wpList_nil ?_
 iterate 6 go_step
 refine wp_seq ?_;refine wp_region_lit ?_
 iterate 14 (refine wpList_step (fun K hK=>?_);rw [if_pos (by rfl)];go_simp;refine hK _ _ ?_;clear hK K)
 refine ZQ (by rfl) 39 _ rfl w.heap.size 2 rfl M1 _ ra1.out Tryz.underlying39 rfl l1.out ?_;simp only [Act.put,List.setIfInBounds_toArray,List.set_cons_zero,List.set_cons_succ]
 iterate 1 (refine wpList_step (fun K hK=>?_);rw [if_pos (by rfl)];go_simp;refine hK _ _ ?_;clear hK K)
 refine ZQ (by rfl) 39 _ rfl (w.heap.size+1) 2 rfl M1 _ rb1.out Tryz.underlying39 rfl l1.out ?_;simp only [Act.put,List.setIfInBounds_toArray,List.set_cons_zero,List.set_cons_succ]
 iterate 18 (refine wpList_step (fun K hK=>?_);rw [if_pos (by rfl)];go_simp;refine hK _ _ ?_;clear hK K)
 refine ZQ (by rfl) 46 _ rfl w.heap.size 20 rfl M2 _ ra2.out Tryz.underlying46 rfl l2.out ?_;simp only [Act.put,List.setIfInBounds_toArray,List.set_cons_zero,List.set_cons_succ]
 iterate 1 (refine wpList_step (fun K hK=>?_);rw [if_pos (by rfl)];go_simp;refine hK _ _ ?_;clear hK K)
 refine ZQ (by rfl) 46 _ rfl (w.heap.size+1) 20 rfl M2 _ rb2.out Tryz.underlying46 rfl l2.out ?_;simp only [Act.put,List.setIfInBounds_toArray,List.set_cons_zero,List.set_cons_succ]
 iterate 18 (refine wpList_step (fun K hK=>?_);rw [if_pos (by rfl)];go_simp;refine hK _ _ ?_;clear hK K)
 refine ZQ (by rfl) 47 _ rfl w.heap.size 50 rfl M3 _ ra3.out Tryz.underlying47 rfl l3.out ?_;simp only [Act.put,List.setIfInBounds_toArray,List.set_cons_zero,List.set_cons_succ]
 iterate 1 (refine wpList_step (fun K hK=>?_);rw [if_pos (by rfl)];go_simp;refine hK _ _ ?_;clear hK K)
 refine ZQ (by rfl) 47 _ rfl (w.heap.size+1) 50 rfl M3 _ rb3.out Tryz.underlying47 rfl l3.out ?_;simp only [Act.put,List.setIfInBounds_toArray,List.set_cons_zero,List.set_cons_succ]
 iterate 4 (refine wpList_step (fun K hK=>?_);rw [if_pos (by rfl)];go_simp;refine hK _ _ ?_;clear hK K)
 refine ZQ (by rfl) 48 _ rfl w.heap.size 434 rfl M4 _ ra4.out Tryz.underlying48 rfl l4.out ?_;simp only [Act.put,List.setIfInBounds_toArray,List.set_cons_zero,List.set_cons_succ]
 iterate 1 (refine wpList_step (fun K hK=>?_);rw [if_pos (by rfl)];go_simp;refine hK _ _ ?_;clear hK K)
 refine ZQ (by rfl) 48 _ rfl (w.heap.size+1) 434 rfl M4 _ rb4.out Tryz.underlying48 rfl l4.out ?_;simp only [Act.put,List.setIfInBounds_toArray,List.set_cons_zero,List.set_cons_succ]
 iterate 3 (refine wpList_step (fun K hK=>?_);rw [if_pos (by rfl)];go_simp;refine hK _ _ ?_;clear hK K)
 refine wpList_nil ?_;go_wp2;go_ret;exact ⟨rfl,O0.out⟩
def zl (b:Bool):Int:=if b then 1 else 0
theorem zBz (b:Bool) (w:World):Calls Tryz.prog 64 #[.bool b] w fun e w'=>e=.returned (.int .i64 (zl b))∧w=w':=by
 cases b
 all_goals
  go_enter Tryz.func64,Tryz.ntmps64
  go_wp2;go_ret;exact ⟨rfl,rfl⟩
def za (k:Int):Bool:=decide (k=0)||decide (k=1)||decide (k=2)
theorem zDD (k:Int) (w:World):Calls Tryz.prog 68 #[.int .i64 k] w fun e w'=>e=.returned (.bool (za k))∧w=w':=by
 go_enter Tryz.func68,Tryz.ntmps68
 by_cases h0:k=0
 ·subst h0;go_wp2;go_ret;exact ⟨rfl,rfl⟩
 ·by_cases h1:k=1
  ·subst h1;go_wp2;go_ret;exact ⟨rfl,rfl⟩
  ·by_cases h2:k=2
   ·subst h2;go_wp2;go_ret;exact ⟨rfl,rfl⟩
   ·have e:za k=false:=by unfold za;simp [h0,h1,h2]
    have e0:(k==0)=false:=by simpa using h0
    have e1:(k==1)=false:=by simpa using h1
    have e2:(k==2)=false:=by simpa using h2
    rw [e];clear e;go_wp2;go_ret;exact ⟨rfl,rfl⟩
def zAg (k cbp:Int):Bool:=decide (k=1)||decide (0<cbp)
theorem zGM {mb:Nat} {X:Nat→Value} {k cbp:Int} {w:World} (hm:BlkIn w mb 483 51 X) (h0:X 0=.int .i64 k) (h48:X 48=.int .i64 cbp):
 Calls Tryz.prog 112 #[.pointer (some ⟨mb,0,none⟩)] w fun e w'=>e=.returned (.bool (zAg k cbp))∧w=w':=by
 have c0:w.cell? ⟨mb,0,none⟩=some (.int .i64 k):=by rw [hm.cell 0 (by decide),h0]
 have c48:w.cell? ⟨mb,48,none⟩=some (.int .i64 cbp):=by rw [hm.cell 48 (by decide),h48]
 clear hm h0 h48
 go_enter Tryz.func112,Tryz.ntmps112
 by_cases h1:k=1
 ·subst h1;go_wp2;go_ret;exact ⟨rfl,rfl⟩
 ·have e1:(k==1)=false:=by simpa using h1
  have e:zAg k cbp=decide (0<cbp):=by unfold zAg;simp [h1]
  rw [e];clear e;go_wp2;go_ret;exact ⟨rfl,rfl⟩
def kAll:List Int:=[5,4,0,1,2]
theorem zIG (t:Int) (off:Nat) (ht:(t=0∧off=1)∨(t=1∧off=0)∨(t=2∧off=2)) (w:World):
 Calls Tryz.prog 66 #[.int .i64 t] w fun e w'=>e=.returned (.slice (some ⟨w.heap.size,off,none⟩) (5-off) (5-off))∧w'.heap[w.heap.size]? =some (.cells (kAll.map (Value.int .i64)).toArray 3 (0,0))∧Only [] w w'∧w'.heap.size=w.heap.size+1:=by
 rcases ht with ⟨rfl,rfl⟩|⟨rfl,rfl⟩|⟨rfl,rfl⟩
 all_goals
  go_enter Tryz.func66,Tryz.ntmps66
  go_wp2;go_ret;refine ⟨rfl,?_,(Only.refl [] w).alloc _,by simp⟩;rw [ZA]
  rfl
def zF5 (k:Int):List Int→Nat→Nat
 |[],_=>0
 |x::r,j=>if x=k then j else zF5 k r (j+1)
theorem zK4 (k:Int) (g off n cap:Nat) (L:List Int) (w:World) (hL:L.length=n) (hn:n≤8) (hcell:∀ i,i<n→w.cell? ⟨g,off+i,none⟩=some (.int .i64 (L.getD i 0))):
 Calls Tryz.prog 69 #[.slice (some ⟨g,off,none⟩) n cap,.int .i64 k] w fun e w'=>e=.returned (.int .i64 (zF5 k L 0))∧w=w':=by
 have HL:=zh hL;have Hc:=zh hcell;clear hL hcell
 go_enter Tryz.func69,Tryz.ntmps69
 go_wp2
 go_loopw [9] (fun i wr=>∃ j:Nat,j≤n∧i=.int .i64 j∧Hid (zF5 k (L.drop j) j=zF5 k L 0)∧wr=w) (fun i _=>n-(intOf i).toNat)
 case atStart=>exact ⟨0,Nat.zero_le _,rfl,zh rfl,rfl⟩
 case round=>
  obtain ⟨j,hj,rfl,he,rfl⟩:=hrel
  by_cases hlt:j<n
  ·have hc:=Hc.out j hlt;have hd:L.drop j=L.getD j 0::L.drop (j+1):=by
    have h1:j<L.length:=by rw [HL.out];exact hlt
    rw [List.drop_eq_getElem_cons h1];simp [List.getD,List.getElem?_eq_getElem h1]
   obtain ⟨x,hx⟩:∃ x,x=L.getD j 0:=⟨_,rfl⟩;rw [←hx] at hc hd;have Hd:=zh hd;clear hd hx
   by_cases hxk:x=k
   ·subst hxk;have e9:Hid ((zF5 x L 0:Nat)=j):=zh (by rw [←he.out,Hd.out];unfold zF5;rw [if_pos rfl]);clear he Hd;go_wp2;go_ret;exact ⟨by rw [e9.out];rfl,rfl⟩
   ·have e9:Hid (zF5 k (L.drop (j+1)) (j+1)=zF5 k L 0):=zh (by rw [←he.out,Hd.out];exact (if_neg hxk).symm);have eb:(x==k)=false:=by simpa using hxk
    clear he Hd;go_wp2;refine ⟨⟨j+1,by omega,by simp,e9,trivial⟩,?_⟩;simp [intOf];omega
  ·obtain rfl:j=n:=by omega
   have e9:Hid ((zF5 k L 0:Nat)=0):=zh (by rw [←he.out,List.drop_eq_nil_of_le (by rw [HL.out];omega)];rfl);clear he;go_wp2;go_ret;exact ⟨by rw [e9.out];rfl,rfl⟩
structure StAt (w:World) (sb:Nat) (S:Nat→Value) (f wide n:Nat) (D:List Value):Prop where
 s:BlkIn w sb 75 106 S
 h0:S 0=.int .i64 f
 h21:S 21=.int .i64 wide
 a:w.ownsRow 0 103 46 (S 23) n D
 bf:f≤1000000
 bw:1≤wide∧wide≤1000000
 bn:n≤1000000
theorem StAt.only {w w':World} {sb f wide n:Nat} {S:Nat→Value} {D:List Value} {Y:List Nat} (h:StAt w sb S f wide n D) (ho:Only Y w w') (h1:sb∉Y) (h2:∀ g,(S 23).ownBlock=some g→g∉Y):StAt w' sb S f wide n D:=
 ⟨h.s.only ho h1,h.h0,h.h21,zF h.a fun g hg=>by obtain ⟨cur,hc⟩:=zD h.a hg;exact ho.block g (lt_of_block hc) (h2 g hg),h.bf,h.bw,h.bn⟩
theorem StAt.same {w w':World} {sb f wide n:Nat} {S:Nat→Value} {D:List Value} (h:StAt w sb S f wide n D) (ho:Only [] w w'):StAt w' sb S f wide n D:=h.only ho (by simp) (by simp)
theorem StAt.drewN {w:World} {sb f wide n:Nat} {S:Nat→Value} {D:List Value} (h:StAt w sb S f wide n D) (k:Nat):StAt (w.drewN k) sb S f wide n D:=h.same ((Only.refl [] w).drewN k)
theorem StAt.slice {w:World} {sb f wide n:Nat} {S:Nat→Value} {D:List Value} (h:StAt w sb S f wide n D):∃ a cap,S 23=.slice a n cap∧(0<n→∃ g,a=some ⟨g,0,none⟩∧(S 23).ownBlock=some g):=by
 rcases h.a.2 with ⟨hv,hn⟩|⟨g,cap,cur,hv,_⟩
 ·exact ⟨none,0,by rw [hv,hn],fun h=>by omega⟩
 ·exact ⟨_,cap,hv,fun _=>⟨g,rfl,by rw [hv];rfl⟩⟩
theorem sw (n:Int) (h0:-4611686018427387904≤n) (h1:n≤4611686018427387904):IntKind.i64.wrap n=n:=by rw [IntKind.wrap_i64];omega
theorem zGR {w:World} {sb f wide n:Nat} {S:Nat→Value} {D:List Value} (h:StAt w sb S f wide n D):
 Calls Tryz.prog 136 #[.pointer (some ⟨sb,0,none⟩)] w fun e w'=>e=.returned (.tuple #[.int .i64 (((f+n)%wide:Nat):Int),.int .i64 (((f+n)/wide:Nat):Int)])∧∃ k,w'=w.drewN k:=by
 obtain ⟨a,cap,hv,-⟩:=h.slice;have s0:w.cell? ⟨sb,0,none⟩=some (.int .i64 f):=by rw [h.s.cell 0 (by decide),h.h0]
 have s21:w.cell? ⟨sb,21,none⟩=some (.int .i64 wide):=by rw [h.s.cell 21 (by decide),h.h21]
 have s23:w.cell? ⟨sb,23,none⟩=some (.slice a n cap):=by rw [h.s.cell 23 (by decide),hv]
 have bf:=h.bf;have bw:=h.bw;have bn:=h.bn;obtain ⟨p,hp⟩:∃ p,p=f+n:=⟨_,rfl⟩;have hpi:((f:Int)+(n:Int))=(p:Int):=by omega
 have hw0:(wide:Int)≠0:=by omega
 have hr:(p:Int).tmod (wide:Int)=((p%wide:Nat):Int):=by rw [Int.tmod_eq_emod_of_nonneg (by omega)];simp
 have hq:(p:Int).tdiv (wide:Int)=((p/wide:Nat):Int):=by rw [Int.tdiv_eq_ediv_of_nonneg (by omega)];simp
 have hqb:p/wide≤2000000:=by have:=Nat.div_le_self p wide;omega
 rw [←hp];obtain ⟨x,hx⟩:∃ x,x=p%wide:=⟨_,rfl⟩;obtain ⟨y,hy⟩:∃ y,y=p/wide:=⟨_,rfl⟩;rw [←hx] at hr ⊢;rw [←hy] at hq hqb ⊢;have hwq:IntKind.i64.wrap (y:Int)=(y:Int):=sw _ (by omega) (by omega);have hpb:p≤2000000:=by omega
 have Hp:=zh hpi;clear h hv hp hx hy hpi
 go_enter Tryz.func136,Tryz.ntmps136
 go_wp2
 go_quiet (fail)
 rename_i nq
 go_wp2_with fail
 try rw [Hp.out]
 go_quiet (fail)
 rename_i nq2;go_wp2;go_ret2;refine ⟨rfl,?_⟩;rw [World.drewN_drewN];exact ⟨_,rfl⟩
def zm (S:Nat→Value):Option Nat→Value
 |some k=> .pointer (some ⟨((S 23).ownBlock).getD 0,k*46,none⟩)
 |none=> .pointer none
theorem zDe {w:World} {sb f wide n:Nat} {S:Nat→Value} {D:List Value} (h:StAt w sb S f wide n D) (col row k:Nat) (hk:row*wide+col=f+k) (hcw:col<wide) (hkn:k<n):
 Calls Tryz.prog 137 #[.pointer (some ⟨sb,0,none⟩),.int .i64 col,.int .i64 row] w fun e w'=>e=.returned (zm S (some k))∧∃ j,w'=w.drewN j:=by
 obtain ⟨a,cap,hv,hg⟩:=h.slice;obtain ⟨g,rfl,hg2⟩:=hg (by omega);have s0:w.cell? ⟨sb,0,none⟩=some (.int .i64 f):=by rw [h.s.cell 0 (by decide),h.h0]
 have s21:w.cell? ⟨sb,21,none⟩=some (.int .i64 wide):=by rw [h.s.cell 21 (by decide),h.h21]
 have s23:w.cell? ⟨sb,23,none⟩=some (.slice (some ⟨g,0,none⟩) n cap):=by rw [h.s.cell 23 (by decide),hv]
 have bf:=h.bf;have bw:=h.bw;have bn:=h.bn;have hd:zm S (some k)=.pointer (some ⟨g,k*46,none⟩):=by simp [zm,hg2]
 rw [hd];obtain ⟨m,hm⟩:∃ m,m=row*wide:=⟨_,rfl⟩;have hmul:(row:Int)*(wide:Int)=(m:Int):=by rw [hm];simp
 rw [←hm] at hk;have hki:(m:Int)+(col:Int)-(f:Int)=(k:Int):=by omega
 have hmb:m≤2000000:=by omega
 have Hki:=zh hki;clear h hv hg2 hg hd hm hk hki
 go_enter Tryz.func137,Tryz.ntmps137
 go_wp2
 go_quiet (fail)
 rename_i nq;rw [Hki.out];go_wp2;go_ret;exact ⟨rfl,_,rfl⟩
theorem zEo {w:World} {sb f wide n:Nat} {S:Nat→Value} {D:List Value} (h:StAt w sb S f wide n D) (col row:Int) (hk:col<0∨(wide:Int)≤col∨row<0):
 Calls Tryz.prog 137 #[.pointer (some ⟨sb,0,none⟩),.int .i64 col,.int .i64 row] w fun e w'=>e=.returned (zm S none)∧w'=w:=by
 have s21:w.cell? ⟨sb,21,none⟩=some (.int .i64 wide):=by rw [h.s.cell 21 (by decide),h.h21]
 have hd:zm S none=.pointer none:=rfl;rw [hd];clear h hd
 go_enter Tryz.func137,Tryz.ntmps137
 by_cases h1:col<0
 ·go_wp2;go_ret;exact ⟨rfl,rfl⟩
 ·by_cases h2:(wide:Int)≤col
  ·go_wp2;go_ret;exact ⟨rfl,rfl⟩
  ·have h3:row<0:=by omega
   go_wp2;go_ret;exact ⟨rfl,rfl⟩
theorem zDf {w:World} {sb f wide n:Nat} {S:Nat→Value} {D:List Value} (h:StAt w sb S f wide n D) (col row t:Nat) (ht:row*wide+col=t) (hcw:col<wide) (htb:t≤100000000) (hk:t<f∨f+n≤t):
 Calls Tryz.prog 137 #[.pointer (some ⟨sb,0,none⟩),.int .i64 col,.int .i64 row] w fun e w'=>e=.returned (zm S none)∧∃ j,w'=w.drewN j:=by
 obtain ⟨a,cap,hv,-⟩:=h.slice;have s0:w.cell? ⟨sb,0,none⟩=some (.int .i64 f):=by rw [h.s.cell 0 (by decide),h.h0]
 have s21:w.cell? ⟨sb,21,none⟩=some (.int .i64 wide):=by rw [h.s.cell 21 (by decide),h.h21]
 have s23:w.cell? ⟨sb,23,none⟩=some (.slice a n cap):=by rw [h.s.cell 23 (by decide),hv]
 have bf:=h.bf;have bw:=h.bw;have bn:=h.bn;have hd:zm S none=.pointer none:=rfl;rw [hd];obtain ⟨m,hm⟩:∃ m,m=row*wide:=⟨_,rfl⟩;have hmul:(row:Int)*(wide:Int)=(m:Int):=by rw [hm];simp
 rw [←hm] at ht;obtain ⟨k,hki⟩:∃ k:Int,(m:Int)+(col:Int)-(f:Int)=k:=⟨_,rfl⟩;have hmb:m≤100000000:=by omega
 have hkk:k<0∨(n:Int)≤k:=by omega
 have hkb:-1000000000≤k∧k≤1000000000:=by omega
 have Hki:=zh hki;clear h hv hd hm ht hki hk
 go_enter Tryz.func137,Tryz.ntmps137
 go_wp2
 go_quiet (fail)
 rename_i nq;rw [Hki.out]
 rcases hkk with h1|h1
 ·go_wp2;go_ret;exact ⟨rfl,_,rfl⟩
 ·by_cases h2:k<0
  ·go_wp2;go_ret;exact ⟨rfl,_,rfl⟩
  ·go_wp2;go_ret;exact ⟨rfl,_,rfl⟩
def Zb (f wide n:Nat):Option Nat:=if (f+n)%wide≠0∧1≤n then some (n-1) else none
def Zw (wide n:Nat):Option Nat:=if wide≤n then some (n-wide) else none
theorem zGe {f wide n k:Nat} (h:Zb f wide n=some k):k<n:=by
 unfold Zb at h
 split at h
 ·simp at h;omega
 ·cases h
theorem zHX {wide n k:Nat} (hw:1≤wide) (h:Zw wide n=some k):k<n:=by
 unfold Zw at h
 split at h
 ·simp at h;omega
 ·cases h
theorem zDd {w:World} {sb f wide n:Nat} {S:Nat→Value} {D:List Value} (h:StAt w sb S f wide n D):
 Calls Tryz.prog 101 #[.pointer (some ⟨sb,0,none⟩)] w fun e w'=>e=.returned (.tuple #[zm S (Zb f wide n),zm S (Zw wide n)])∧∃ j,w'=w.drewN j:=by
 have bf:=h.bf;have bw:=h.bw;have bn:=h.bn;obtain ⟨x,hx⟩:∃ x,x=(f+n)%wide:=⟨_,rfl⟩;obtain ⟨y,hy⟩:∃ y,y=(f+n)/wide:=⟨_,rfl⟩;have hxw:x<wide:=by rw [hx];exact Nat.mod_lt _ (by omega)
 have hxy:y*wide+x=f+n:=by rw [hx,hy,Nat.mul_comm];exact Nat.div_add_mod _ _
 have hyb:y≤2000000:=by rw [hy];have:=Nat.div_le_self (f+n) wide;omega
 have hleft:∀ w' k,w'=w.drewN k→Calls Tryz.prog 137 #[.pointer (some ⟨sb,0,none⟩),.int .i64 ((x:Int)-1),.int .i64 y] w' fun e w2=>e=.returned (zm S (Zb f wide n))∧∃ j,w2=w'.drewN j:=by
  rintro w' k rfl
  by_cases h0:x=0
  ·have e:Zb f wide n=none:=by unfold Zb;rw [←hx,if_neg (by omega)]
   rw [e];exact (zEo (h.drewN k) _ _ (.inl (by omega))).mono fun _ _ ⟨h1,h2⟩=>⟨h1,0,by rw [h2];rfl⟩
  ·obtain ⟨x1,rfl⟩:∃ x1,x=x1+1:=⟨x-1,by omega⟩;rw [show (((x1+1:Nat):Int)-1)=(x1:Int) by omega]
   by_cases hn:1≤n
   ·have e:Zb f wide n=some (n-1):=by unfold Zb;rw [←hx,if_pos ⟨by omega,hn⟩]
    rw [e];exact zDe (h.drewN k) x1 y (n-1) (by omega) (by omega) (by omega)
   ·have e:Zb f wide n=none:=by unfold Zb;rw [if_neg (by omega)]
    rw [e];exact zDf (h.drewN k) x1 y (y*wide+x1) rfl (by omega) (by omega) (by omega)
 have habove:∀ w' k,w'=w.drewN k→Calls Tryz.prog 137 #[.pointer (some ⟨sb,0,none⟩),.int .i64 x,.int .i64 ((y:Int)-1)] w' fun e w2=>e=.returned (zm S (Zw wide n))∧∃ j,w2=w'.drewN j:=by
  rintro w' k rfl
  by_cases h0:y=0
  ·subst h0;have e:Zw wide n=none:=by unfold Zw;rw [if_neg (by omega)]
   rw [e];exact (zEo (h.drewN k) _ _ (.inr (.inr (by omega)))).mono fun _ _ ⟨h1,h2⟩=>⟨h1,0,by rw [h2];rfl⟩
  ·obtain ⟨y1,rfl⟩:∃ y1,y=y1+1:=⟨y-1,by omega⟩;rw [show (((y1+1:Nat):Int)-1)=(y1:Int) by omega];have hxy2:y1*wide+x+wide=f+n:=by rw [←hxy,Nat.add_mul,Nat.one_mul];omega
   by_cases hn:wide≤n
   ·have e:Zw wide n=some (n-wide):=by unfold Zw;rw [if_pos hn]
    rw [e];exact zDe (h.drewN k) x y1 (n-wide) (by omega) (by omega) (by omega)
   ·have e:Zw wide n=none:=by unfold Zw;rw [if_neg hn]
    rw [e];exact zDf (h.drewN k) x y1 (y1*wide+x) rfl (by omega) (by omega) (by omega)
 have hpl:=zGR h;rw [←hx,←hy] at hpl;have HL:=zh hleft;have HA:=zh habove;have HP:=zh hpl;clear hleft habove hpl hxy h hx hy
 go_enter Tryz.func101,Tryz.ntmps101
 go_wp2_with fail
 refine HP.out.mono ?_;rintro e w1 ⟨rfl,k1,rfl⟩
 go_wp2_with fail
 refine (HL.out _ k1 rfl).mono ?_;rintro e w2 ⟨rfl,k2,rfl⟩;rw [World.drewN_drewN]
 go_wp2_with fail
 refine (HA.out _ (k1+k2) rfl).mono ?_;rintro e w2 ⟨rfl,k3,rfl⟩;rw [World.drewN_drewN];go_wp2;go_ret2;exact ⟨rfl,_,rfl⟩
structure DoneP where
 kind:Int
 cbp:Int
 modes:Nat→Int
 parts:Nat→Int
def DoneP.cells (d:DoneP):List Value:=Value.int .i64 d.kind::Value.int .i64 d.cbp::((List.range 16).map fun i=>Value.int .i64 (d.modes i))++((List.range 28).map fun i=>Value.int .i64 (d.parts i))
theorem DoneP.len (d:DoneP):d.cells.length=46:=by simp [DoneP.cells]
def zG (ds:List DoneP):List Value:=ds.flatMap DoneP.cells
theorem zDz:∀ ds:List DoneP,(zG ds).length=ds.length*46
 |[]=>rfl
 |d::ds=>by
  show (d.cells++zG ds).length=_
  rw [List.length_append,d.len,zDz ds,List.length_cons];omega
theorem zHR:∀ (ds:List DoneP) (k j:Nat) (d:DoneP),ds[k]? =some d→j<46→(zG ds)[k*46+j]? =d.cells[j]?
 |[],k,j,d,h,_=>by simp at h
 |e::ds,0,j,d,h,hj=>by
  simp at h;subst h
  show (e.cells++zG ds)[0*46+j]? =_
  rw [Nat.zero_mul,Nat.zero_add,List.getElem?_append_left (by rw [e.len];exact hj)]
 |e::ds,k+1,j,d,h,hj=>by
  show (e.cells++zG ds)[(k+1)*46+j]? =_
  rw [List.getElem?_append_right (by rw [e.len];omega),e.len,show (k+1)*46+j-46=k*46+j by omega];exact zHR ds k j d (by simpa using h) hj
theorem zB6 (ds:List DoneP) (d:DoneP):zG (ds++[d])=zG ds++d.cells:=by simp [zG]
theorem zD2 (d:DoneP):d.cells[0]? =some (.int .i64 d.kind):=rfl
theorem zKh (d:DoneP):d.cells[1]? =some (.int .i64 d.cbp):=rfl
theorem zJL (d:DoneP) (i:Nat) (h:i<16):d.cells[2+i]? =some (.int .i64 (d.modes i)):=by
 unfold DoneP.cells;rw [List.getElem?_append_left (by simp;omega),show 2+i=i+1+1 by omega,List.getElem?_cons_succ,List.getElem?_cons_succ];simp [h]
theorem zJK (d:DoneP) (i:Nat) (h:i<28):d.cells[18+i]? =some (.int .i64 (d.parts i)):=by
 unfold DoneP.cells;rw [List.getElem?_append_right (by simp)];simp [show 18+i-(16+2)=i by omega,h]
theorem StAt.cell {w:World} {sb f wide n:Nat} {S:Nat→Value} {ds:List DoneP} (h:StAt w sb S f wide n (zG ds)) {k j g:Nat} {d:DoneP} {v:Value} (hd:ds[k]? =some d) (hj:j<46) (hv:d.cells[j]? =some v) (hg:(S 23).ownBlock=some g):
 w.cell? ⟨g,k*46+j,none⟩=some v:=by
 have hlen:=h.a.1;have hk:k<ds.length:=by
  apply Classical.byContradiction
  intro e;rw [List.getElem?_eq_none (by omega)] at hd
  cases hd
 rw [zDz] at hlen
 rcases h.a.2 with ⟨h1,h2⟩|⟨g',cap,cur,h1,-⟩
 ·omega
 ·have ha:=h.a;rw [h1] at ha hg;have:g'=g:=by simpa [Value.ownBlock] using hg
  subst this;have hc:=ha.cells (g:=g') rfl (k*46+j) v (by rw [zHR ds k j d hd hj,hv]);have e9:(⟨g',0,none⟩:Addr).add (k*46+j)=⟨g',k*46+j,none⟩:=by
   generalize k*46+j=z;unfold Addr.add
   split
   ·rename_i h0;rw [h0]
   ·simp
  rw [e9] at hc;exact hc
def bX (b:Nat):Nat:=b/4%2*2+b%4%2
def bY (b:Nat):Nat:=b/4/2*2+b%4/2
def zHS (x y:Nat):Nat:=(y/2*2+x/2)*4+y%2*2+x%2
theorem zNj (b:Nat):bX b<4:=by unfold bX;omega
theorem zNi (b:Nat) (h:b<16):bY b<4:=by unfold bY;omega
theorem zD3 (x y:Nat) (hx:x<4) (hy:y<4):zHS x y<16:=by unfold zHS;omega
theorem zK5 (b:Nat) (hb:b<16) (w:World):Calls Tryz.prog 109 #[.int .i64 b] w fun e w'=>e=.returned (.tuple #[.int .i64 (bX b),.int .i64 (bY b)])∧w=w':=by
 go_enter Tryz.func109,Tryz.ntmps109
 go_wp2;go_ret2;refine ⟨?_,rfl⟩;have e1:((bX b:Nat):Int)=(b:Int)/4%2*2+(b:Int)%2:=by unfold bX;omega
 have e2:((bY b:Nat):Int)=(b:Int)/4/2*2+(b:Int)%4/2:=by unfold bY;omega
 rw [e1,e2]
 rfl
theorem zIH (x y:Nat) (hx:x<4) (hy:y<4) (w:World):Calls Tryz.prog 143 #[.int .i64 x,.int .i64 y] w fun e w'=>e=.returned (.int .i64 (zHS x y))∧w=w':=by
 go_enter Tryz.func143,Tryz.ntmps143
 go_wp2;go_ret;refine ⟨zq ?_,rfl⟩;unfold zHS;omega
def zCt (l t:Int):Int:=if l<0∨t<0 then 2 else min l t
theorem zK3 (l t:Int) (w:World):Calls Tryz.prog 110 #[.int .i64 l,.int .i64 t] w fun e w'=>e=.returned (.int .i64 (zCt l t))∧w=w':=by
 go_enter Tryz.func110,Tryz.ntmps110
 by_cases h:l<0∨t<0
 ·have e:zCt l t=2:=by unfold zCt;rw [if_pos h]
  rw [e];clear e
  by_cases hl:l<0
  ·go_wp2;go_ret;exact ⟨rfl,rfl⟩
  ·have ht:t<0:=by omega
   go_wp2;go_ret;exact ⟨rfl,rfl⟩
 ·have hl:0≤l:=by omega
  have ht:0≤t:=by omega
  have e:zCt l t=min l t:=by unfold zCt;rw [if_neg h]
  rw [e];clear e h;go_wp2
  all_goals
   go_ret
   exact ⟨zq (by omega),rfl⟩
theorem m4 (z:Int) (h0:0≤z) (h1:z≤100):(IntKind.i64.wrap z).tmod 4=z%4:=by rw [sw z (by omega) (by omega),Int.tmod_eq_emod_of_nonneg h0]
def zCx (ds:List DoneP) (o:Option Nat) (i:Nat):Int:=match o with
 |none=>-1
 |some k=>match ds[k]? with
  |none=>-1
  |some d=>if d.kind=0 then d.modes i else 2
theorem zFu {w:World} {sb mb f wide n:Nat} {S X:Nat→Value} {D:List Value} (h:StAt w sb S f wide n D) (hm:BlkIn w mb 483 51 X) (x y:Nat) (hx:x<4) (hy:y<4) {v:Int} (hX:X (2+zHS x y)=.int .i64 v):
 Calls Tryz.prog 111 #[.pointer (some ⟨sb,0,none⟩),.pointer (some ⟨mb,0,none⟩),.int .i64 x,.int .i64 y] w fun e w'=>e=.returned (.int .i64 v)∧∃ j,w'=w.drewN j:=by
 have hb:=zD3 x y hx hy;obtain ⟨i,hi⟩:∃ i,i=zHS x y:=⟨_,rfl⟩;have hblk:=fun w=>zIH x y hx hy w
 rw [←hi] at hX hb;simp only [←hi] at hblk;have HN:=zh (zDd h);have HB:=zh hblk;have c1:w.cell? ⟨mb,2+i,none⟩=some (.int .i64 v):=by rw [hm.cell (2+i) (by omega),hX]
 clear h hm hX hblk hi
 go_enter Tryz.func111,Tryz.ntmps111
 go_wp2_with fail
 refine HN.out.mono ?_;rintro e w1 ⟨rfl,k1,hwz⟩;have cz:w1.cell? ⟨mb,2+i,none⟩=some (.int .i64 v):=by rw [hwz];exact c1
 have Hwz:=zh hwz;clear hwz c1;generalize zm S (Zb f wide n)=p1 at*;generalize zm S (Zw wide n)=p2 at*
 go_wp2_with fail
 go_quiet (first|(go_at_call 143;exact Calls.quiet_of_same ((HB.out _).mono fun _ _ ⟨h1,h2⟩=>⟨h1,h2.symm⟩)))
 go_wp2;go_ret;refine ⟨rfl,?_⟩;rw [Hwz.out,World.drewN_drewN];exact ⟨_,rfl⟩
theorem zFt {w:World} {sb f wide n:Nat} {S:Nat→Value} {ds:List DoneP} (h:StAt w sb S f wide n (zG ds)) (o:Option Nat) (x y:Int) (a b:Nat) (pm:Value) (hxy:(x=-1∧y=b∧a=3∧b<4∧o=Zb f wide n)∨(y=-1∧x=a∧b=3∧a<4∧o=Zw wide n)):
 Calls Tryz.prog 111 #[.pointer (some ⟨sb,0,none⟩),pm,.int .i64 x,.int .i64 y] w fun e w'=>e=.returned (.int .i64 (zCx ds o (zHS a b)))∧∃ j,w'=w.drewN j:=by
 have ha:a<4:=by omega
 have hb:b<4:=by omega
 have hi16:=zD3 a b ha hb;obtain ⟨i,hi⟩:∃ i,i=zHS a b:=⟨_,rfl⟩;have hblk:∀ (xa ya:Int) (w:World),xa=a→ya=b→Calls Tryz.prog 143 #[.int .i64 xa,.int .i64 ya] w fun e w'=>e=.returned (.int .i64 (zHS a b))∧w=w':=by rintro _ _ w rfl rfl;exact zIH a b ha hb w
 rw [←hi] at hi16 ⊢;simp only [←hi] at hblk;have hlen:ds.length=n:=by have:=h.a.1;rw [zDz] at this;omega
 have hlt:∀ k,o=some k→k<n:=by
  rcases hxy with ⟨-,-,-,-,rfl⟩|⟨-,-,-,-,rfl⟩
  ·exact fun k hk=>zGe hk
  ·exact fun k hk=>zHX h.bw.1 hk
 have HB:=zh hblk;have hcase:(o=none∧zCx ds o i=-1)∨∃ (k g:Nat) (d:DoneP),o=some k∧(S 23).ownBlock=some g∧zCx ds o i=(if d.kind=0 then d.modes i else 2)∧w.cell? ⟨g,k*46,none⟩=some (.int .i64 d.kind)∧w.cell? ⟨g,k*46+(2+i),none⟩=some (.int .i64 (d.modes i)):=by
  cases o with
  |none=>exact .inl ⟨rfl,rfl⟩
  |some k=>
   have hk:=hlt k rfl;obtain ⟨a',cap,hv,hg⟩:=h.slice;obtain ⟨g,-,hg2⟩:=hg (by omega);have hd:ds[k]? =some ds[k]:=List.getElem?_eq_getElem (by omega);refine .inr ⟨k,g,ds[k],rfl,hg2,by simp only [zCx,hd],?_,h.cell hd (by omega) (zJL _ i hi16) hg2⟩;have:=h.cell hd (j:=0) (by omega) (zD2 _) hg2
   simpa using this
 have HN:=zh (zDd h);clear h hlen hlt hblk hi
 rcases hcase with ⟨rfl,hres⟩|⟨k,g,d,rfl,hg,hres,ck,cm⟩
 ·rw [hres];clear hres
  go_enter Tryz.func111,Tryz.ntmps111
  go_wp2_with fail
  refine HN.out.mono ?_;rintro e w1 ⟨rfl,k1,rfl⟩
  rcases hxy with ⟨rfl,rfl,rfl,h4,ho⟩|⟨rfl,rfl,rfl,h4,ho⟩
  ·rw [←ho,show zm S none=.pointer none from rfl];generalize zm S (Zw wide n)=p2 at*;clear ho;go_wp2;go_ret;exact ⟨rfl,_,rfl⟩
  ·rw [←ho,show zm S none=.pointer none from rfl];generalize zm S (Zb f wide n)=p2 at*;clear ho;go_wp2;go_ret;exact ⟨rfl,_,rfl⟩
 ·obtain ⟨kd,hkd⟩:∃ kd,kd=d.kind:=⟨_,rfl⟩;obtain ⟨md,hmd⟩:∃ md,md=d.modes i:=⟨_,rfl⟩;rw [←hkd] at ck hres;rw [←hmd] at cm hres;have hp:zm S (some k)=.pointer (some ⟨g,k*46,none⟩):=by simp [zm,hg]
  obtain ⟨R,hR⟩:∃ R,R=zCx ds (some k) i:=⟨_,rfl⟩;rw [←hR] at hres ⊢;clear hkd hmd hg hR
  by_cases hk0:kd=0
  ·rw [if_pos hk0] at hres;subst hk0 hres
   go_enter Tryz.func111,Tryz.ntmps111
   go_wp2_with fail
   refine HN.out.mono ?_;rintro e w1 ⟨rfl,k1,hwz⟩;have cz:w1.cell? ⟨g,k*46+2+i,none⟩=some (.int .i64 R):=by rw [hwz,show k*46+2+i=k*46+(2+i) by omega];exact cm
   have hi16i:(i:Int)<16:=by omega
   have cy:w1.cell? ⟨g,k*46,none⟩=some (.int .i64 0):=by rw [hwz];exact ck
   have Hwz:=zh hwz;clear hwz cm ck
   rcases hxy with ⟨rfl,rfl,rfl,h4,ho⟩|⟨rfl,rfl,rfl,h4,ho⟩
   ·rw [←ho,hp];generalize zm S (Zw wide n)=p2 at*;clear ho hp
    go_wp2_with fail
    go_quiet (first|(go_at_call 143;exact Calls.quiet_of_same ((HB.out _ _ _ (by rw [m4 _ (by omega) (by omega)];omega) (by rw [m4 _ (by omega) (by omega)];omega)).mono fun _ _ ⟨h1,h2⟩=>⟨h1,h2.symm⟩)))
    go_wp2;go_ret;refine ⟨rfl,?_⟩;rw [Hwz.out,World.drewN_drewN];exact ⟨_,rfl⟩
   ·rw [←ho,hp];generalize zm S (Zb f wide n)=p2 at*;clear ho hp
    go_wp2_with fail
    go_quiet (first|(go_at_call 143;exact Calls.quiet_of_same ((HB.out _ _ _ (by rw [m4 _ (by omega) (by omega)];omega) (by rw [m4 _ (by omega) (by omega)];omega)).mono fun _ _ ⟨h1,h2⟩=>⟨h1,h2.symm⟩)))
    go_wp2;go_ret;refine ⟨rfl,?_⟩;rw [Hwz.out,World.drewN_drewN];exact ⟨_,rfl⟩
  ·rw [if_neg hk0] at hres;subst hres;have e1:(kd==0)=false:=by simpa using hk0
   go_enter Tryz.func111,Tryz.ntmps111
   go_wp2_with fail
   refine HN.out.mono ?_;rintro e w1 ⟨rfl,k1,rfl⟩
   rcases hxy with ⟨rfl,rfl,rfl,h4,ho⟩|⟨rfl,rfl,rfl,h4,ho⟩
   ·rw [←ho,hp];generalize zm S (Zw wide n)=p2 at*;clear ho hp;go_wp2;go_ret;exact ⟨rfl,_,rfl⟩
   ·rw [←ho,hp];generalize zm S (Zb f wide n)=p2 at*;clear ho hp;go_wp2;go_ret;exact ⟨rfl,_,rfl⟩
variable {c:Cod} {F0 F:List Nat} {w0 w:World} {kb sb mb n:Nat} {S X:Nat→Value} {D:List Value} {r:List Ask}
theorem zNG {q p d v:Int} (hc:c.Ok) (h:Scene c F0 w0 w kb sb mb S X n D F (.elem 13 0 d 0::r)) (h22:S 22=.int .i64 p) (h49:X 49=.int .i64 v)
 (hp:0≤p∧p≤51) (hd:-26≤d∧d≤25) (hpq:q=(p+d+52)%52) (hv0:0≤v∧v≤51) (hv:c.wr=true→v=q):
 Calls Tryz.prog 113 #[.pointer (some ⟨kb,0,none⟩)] w fun e w'=>e=.returned (.tuple #[])∧∃ F',Scene c F0 w0 w' kb sb mb (upd S 22 (.int .i64 q)) (upd X 49 (.int .i64 q)) n D F' r:=by
 have k0:=h.k0;have k1:=h.k1;have k2:=h.k2;have s22:w.cell? ⟨sb,22,none⟩=some (.int .i64 p):=by rw [h.s.cell 22 (by decide),h22]
 have m49:w.cell? ⟨mb,49,none⟩=some (.int .i64 v):=by rw [h.m.cell 49 (by decide),h49]
 have H:=zh h;have HC:=zh hc;have mE:=hc.mE;have eE:=hc.eE;have H22:=zh h22;have H49:=zh h49;have Hq:=zh (show (p+d+52)%52=q from hpq.symm);have Hq2:=zh (show (p+d)%52=q by omega);have Hvd:Hid (c.wr=true→v=(p+d+52)%52):=zh fun h=>(hv h).trans hpq
 clear h hc h22 h49 hpq hv
 go_enter Tryz.func113,Tryz.ntmps113
 go_wp2
 go_quiet (fail)
 rename_i nq;have H1:Hid (Scene c F0 w0 (w.drewN nq) kb sb mb S X n D F (.elem 13 0 d 0::r)):=zh (H.out.drewN HC.out nq)
 go_wp2_with fail
 all_goals
  refine (H1.out.elem HC.out _ (fun h=>by have:=Hvd.out h;omega)).mono ?_;rintro e w1 ⟨rfl,F1,g1⟩;have k0':=g1.k0;have k1':=g1.k1;have k2':=g1.k2;have s22':w1.cell? ⟨sb,22,none⟩=some (.int .i64 p):=by rw [g1.s.cell 22 (by decide),H22.out]
  have m49':w1.cell? ⟨mb,49,none⟩=some (.int .i64 v):=by rw [g1.m.cell 49 (by decide),H49.out]
  have z49:=g1.m.free 49;have G1:=zh g1;clear g1
  go_wp2_with (first|(go_at_call 58;refine (zAY _ _ _ _).mono ?_;rintro e w' ⟨rfl,rfl⟩))
  go_region
  try rw [Hq.out]
  try rw [Hq2.out]
  have g2:=G1.out.setM HC.out 49 (.int .i64 q);clear k0' k1' k2' s22' z49 m49' G1;generalize w1.setCell ⟨mb,49,none⟩ (.int .i64 q)=w2 at*;have k0':=g2.k0;have k1':=g2.k1;have k2':=g2.k2;have m49':w2.cell? ⟨mb,49,none⟩=some (.int .i64 q):=by rw [g2.m.cell 49 (by decide),ZK]
  have s22':w2.cell? ⟨sb,22,none⟩=some (.int .i64 p):=by rw [g2.s.cell 22 (by decide),H22.out]
  have z22:=g2.s.free 22;have G2:=zh g2;clear g2;go_wp2
  go_region
  go_wp2;go_end0;exact ⟨rfl,F1,((G2.out.setS HC.out 22 (.int .i64 q) (by decide)).drew HC.out).drew HC.out⟩
end Go.Proofs.YtcppbdlmcbjmeaaGreatDoor
