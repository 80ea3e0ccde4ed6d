/- Lemmas that the law needs, part 28. -/
import Derived.Test.YtcppbdlmcbjmeaaGreatDoorK06
import Derived.StillTailTactics
set_option maxHeartbeats 1600000
set_option maxRecDepth 100000
namespace Go.Proofs.YtcppbdlmcbjmeaaGreatDoor
open Go.RowKit
def zBW (tb sb L:Nat) (low wid outs:Int) (begun over:Bool) (ov:Value) (n:Int):Array Value:=
 #[.pointer (some ⟨tb,0,none⟩),.slice (some ⟨sb,0,none⟩) L L,.int .i64 low,.int .i64 wid,.int .i64 outs,.bool begun,.bool over,ov,.int .i64 n]
def Zu (ys:List Int):List Value:=ys.map (Value.int .u8)
structure EncIs (w:World) (b tb sb:Nat) (ov:Value) (e:Enc):Prop where
 cells:w.heap[b]? =some (.cells (zBW tb sb e.st.length e.low e.wid e.outs e.begun e.over ov e.bits.length) 158 (0,0))
 tab:TableAt w tb
 sts:w.heap[sb]? =some (.cells (ints e.st) 3 (0,0))
 out:w.ownsRow 0 5 1 ov (ZP e.bits).length (Zu (ZP e.bits))
theorem ZC {w:World} {b c:Nat} {cs ds:Array Value} {s t:TypeId} (h:w.heap[b]? =some (.cells cs s (0,0))) (k:w.heap[c]? =some (.cells ds t (0,0))) (hst:s≠t):b≠c:=by
 rintro rfl;rw [h] at k;simp at k;exact hst k.2
theorem zIp:∀ r:Nat,r<8→∀ y:Nat,y<256→(y:Int)%(2*zAW r)=0→∀ x:Nat,x<2→bits .or .u8 (y:Int) ((x:Int)*2^(7-r%8)%256)=(y:Int)+(x:Int)*zAW r:=by decide+kernel
theorem zLu (r:Nat) (y x:Int) (hr:r<8) (h0:0≤y) (h1:y≤255) (hm:y%(2*zAW r)=0) (hx:x=0∨x=1):bits .or .u8 y (x*2^(7-r%8)%256)=y+x*zAW r:=by
 obtain ⟨y,rfl⟩:=Int.eq_ofNat_of_zero_le h0;obtain ⟨x,rfl⟩:=Int.eq_ofNat_of_zero_le (show 0≤x by omega);exact zIp r hr y (by omega) hm x (by omega)
theorem zDM (q r:Nat):zAW (8*q+r)=zAW r:=by unfold zAW;rw [Nat.mul_add_mod]
theorem zFM (ys:List Int) (i:Nat) (v:Int):(Zu ys).set i (.int .u8 v)=Zu (ys.set i v):=by unfold Zu;rw [List.map_set]
theorem zEx {w:World} {B:Nat} {e:TypeId} {g n cap i:Nat} {xs:List Value} (u:Value) (h:w.ownsRow B e 1 (.slice (some ⟨g,0,none⟩) n cap) n xs) (hi:i<n):
 (w.setCell ⟨g,i,none⟩ u).ownsRow B e 1 (.slice (some ⟨g,0,none⟩) n cap) n (xs.set i u):=by
 refine ⟨by rw [List.length_set];exact h.1,?_⟩
 rcases h.2 with ⟨h1,_⟩|⟨g',cap',cur,h1,hb,hh,hn,hc,hs,ht⟩
 ·simp at h1
 ·simp only [Value.slice.injEq,Option.some.injEq,Addr.mk.injEq] at h1;obtain ⟨⟨rfl,-⟩,-,rfl⟩:=h1;refine .inr ⟨g,cap,_,rfl,hb,zB u hh,hn,hc,by simpa using hs,?_⟩;have hi2:i<cur.size:=by omega
  rw [show cur.setIfInBounds i u=cur.set i u hi2 by simp [Array.setIfInBounds,hi2],Array.toList_set,List.take_set,ht]
structure EncMid (w:World) (b tb sb g q r cap:Nat) (e:Enc):Prop where
 len:e.bits.length=8*q+r
 low:r<8
 cells:w.heap[b]? =some (.cells (zBW tb sb e.st.length e.low e.wid e.outs e.begun e.over (.slice (some ⟨g,0,none⟩) (q+1) cap) (8*(q:Int)+r)) 158 (0,0))
 tab:TableAt w tb
 sts:w.heap[sb]? =some (.cells (ints e.st) 3 (0,0))
 out:w.ownsRow 0 5 1 (.slice (some ⟨g,0,none⟩) (q+1) cap) (q+1) (Zu (zBT e.bits))
theorem EncMid.done {w:World} {b tb sb g q r cap:Nat} {e:Enc} (h:EncMid w b tb sb g q r cap e) (x y:Int) (hy:Zh e.bits q=y):
 EncIs ((w.setCell ⟨g,q,none⟩ (.int .u8 (y+x*zAW r))).setCell ⟨b,8,none⟩ (.int .i64 (8*(q:Int)+r+1))).drew b tb sb (.slice (some ⟨g,0,none⟩) (q+1) cap) (e.bit x):=by
 have hlow:=h.low;obtain ⟨cur,hg⟩:=zD h.out rfl;have n1:b≠g:=ZC h.cells hg (by decide);have n2:tb≠g:=ZC h.tab hg (by decide);have n3:sb≠g:=ZC h.sts hg (by decide);have n4:tb≠b:=ZC h.tab h.cells (by decide);have n5:sb≠b:=ZC h.sts h.cells (by decide);have hq:e.bits.length/8=q:=by have:=h.len;omega
 have hp:ZP (e.bit x).bits=(zBT e.bits).set q (y+x*zAW r):=by
  show ZP (e.bits++[x])=_
  rw [zEu,hq,hy,h.len,zDM]
 have hl:(ZP (e.bit x).bits).length=q+1:=by rw [hp,List.length_set,zDJ,hq]
 refine ⟨?_,?_,?_,?_⟩
 ·show (World.setCell _ _ _).heap[b]? =_
  rw [zB _ (zC _ h.cells n1)];have hb:((e.bit x).bits.length:Int)=8*(q:Int)+r+1:=by simp [Enc.bit,h.len]
  rw [hb]
  rfl
 ·exact zC _ (zC _ h.tab n2) n4
 ·exact zC _ (zC _ h.sts n3) n5
 ·rw [hl,hp,←zFM];have h1:=zEx (.int .u8 (y+x*zAW r)) h.out (i:=q) (by omega);refine zF (w:=w.setCell ⟨g,q,none⟩ (.int .u8 (y+x*zAW r))) h1 ?_;intro k hk;simp [Value.ownBlock] at hk;subst hk;exact Below.heap_setCell _ _ _ _ (fun e=>n1 e.symm)
theorem zGk (b tb sb:Nat) (ov:Value) (e:Enc) (x:Int) (w:World) (he:EncIs w b tb sb ov e) (hx:x=0∨x=1) (hb:∀ y∈e.bits,y=0∨y=1) (hn:e.bits.length<1000000000):
 Calls Tryz.prog 77 #[.pointer (some ⟨b,0,none⟩),.int .i64 x] w fun r w'=>r=.returned (.tuple #[])∧∃ ov',EncIs w' b tb sb ov' (e.bit x)∧Only (b::ov.ownBlock.toList) w w'∧∀ g,ov'.ownBlock=some g→ov.ownBlock=some g∨w.heap.size≤g:=by
 have c1:w.cell? ⟨b,8,none⟩=some (.int .i64 e.bits.length):=by rw [zA he.cells];rfl
 have c2:w.cell? ⟨b,7,none⟩=some ov:=by rw [zA he.cells];rfl
 have z1:=ZB he.cells 7;have z2:=ZB he.cells 8;obtain ⟨q,r,hqr,hr⟩:∃ q r:Nat,e.bits.length=8*q+r∧r<8:=⟨e.bits.length/8,e.bits.length%8,by omega,by omega⟩;have hown:=he.out;rw [zR,hqr] at hown;have c1':w.cell? ⟨b,8,none⟩=some (.int .i64 (8*(q:Int)+r)):=by rw [c1,hqr];simp
 clear c1;rw [hqr] at hn;have Hqr:=zh hqr;have He:=zh he;have Hb:=zh hb;clear hqr he hb
 go_enter Tryz.func77,Tryz.ntmps77
 by_cases h8:r=0
 ·subst h8;rw [show (8*q+0+7)/8=q by omega] at hown
  go_wp2_with (at_builtin;refine zf rfl _ _ rfl zL8 0 _ _ _ _ hown rfl rfl (by simp) rfl (by omega) (by decide) (by omega) ?_)
  intro g cap w2 hp;have hbl:=lt_of_block He.out.cells;have hk:∀ k,k<w.heap.size→ov.ownBlock≠some k→w2.heap[k]? =w.heap[k]? :=fun k hk hr=>hp.2.1.block k hk (fun e=>hr e.symm)
  have hob:∀ k cs t,w.heap[k]? =some (.cells cs t (0,0))→t≠5→ov.ownBlock≠some k:=fun k cs t h1 h2 h3=>by
   obtain ⟨cur,hc⟩:=zD hown h3;exact ZC h1 hc h2 rfl
  have hcb:=(hk b hbl (hob b _ _ He.out.cells (by decide))).trans He.out.cells;have htb:=(hk tb (lt_of_block He.out.tab) (hob tb _ _ He.out.tab (by decide))).trans He.out.tab;have hsb:=(hk sb (lt_of_block He.out.sts) (hob sb _ _ He.out.sts (by decide))).trans He.out.sts;have hlen:e.bits.length=8*q+0:=Hqr.out;have hro:Zu (ZP e.bits)++[Value.int .u8 0]=Zu (zBT e.bits):=by
   rw [zFw _ (by omega)];simp [Zu]
  have ho2:=hp.1;rw [hro] at ho2;obtain ⟨g2,hg2,hgf⟩:∃ g2,Value.slice (some ⟨g,0,none⟩) (q+1) cap=.slice (some ⟨g2,0,none⟩) (q+1) cap∧(ov.ownBlock=some g2∨w.heap.size≤g2):=by
   obtain ⟨g2,cap2,h1,h2⟩:=hp.2.2;simp only [Value.slice.injEq,Option.some.injEq,Addr.mk.injEq] at h1;obtain ⟨⟨rfl,-⟩,-,-⟩:=h1;exact ⟨_,rfl,h2⟩
  simp only [Value.slice.injEq,Option.some.injEq,Addr.mk.injEq] at hg2;obtain ⟨⟨rfl,-⟩,-,-⟩:=hg2;obtain ⟨cur,hgb⟩:=zD ho2 rfl;have hg:g≠b:=ZC hgb hcb (by decide);have hy:Zh e.bits q=0:=by
   unfold Zh;rw [zE,zE,zE,zE,zE,zE,zE,zE]<;>omega
  have c3:w2.cell? ⟨g,q,none⟩=some (.int .u8 0):=by
   rw [ho2.cellAt (g:=g) (j:=q) (by omega),←hro];rw [List.getElem?_append_right (by simp [Zu,zR];omega)];simp [Zu,zR,show q-(e.bits.length+7)/8=0 by omega]
  have z3:=ZB hgb q;have d1:w2.cell? ⟨b,8,none⟩=some (.int .i64 (8*(q:Int)+(0:Nat))):=by rw [zA hcb,hlen];simp [zBW]
  have d2:w2.cell? ⟨b,7,none⟩=some ov:=by rw [zA hcb];rfl
  have y1:=ZB hcb 7;have y2:=ZB hcb 8;have hmid:EncMid (w2.setCell ⟨b,7,none⟩ (.slice (some ⟨g,0,none⟩) (q+1) cap)) b tb sb g q 0 cap e:=by
   refine ⟨hlen,by omega,?_,?_,?_,?_⟩
   ·rw [zB _ hcb,hlen];simp [zBW]
   ·exact zC _ htb (ZC htb hcb (by decide))
   ·exact zC _ hsb (ZC hsb hcb (by decide))
   ·exact zF ho2 (fun k hk=>by
     simp [Value.ownBlock] at hk;subst hk;exact Below.heap_setCell _ _ _ _ hg)
  have hon:Only (b::ov.ownBlock.toList) w w2:=(Only.refl _ _).grown hp.2.1 (fun k hk=> .inl (by simp [hk]));have hgs:g∈b::ov.ownBlock.toList∨w.heap.size≤g:=hgf.elim (fun h=> .inl (by simp [h])) .inr;have Hmid:=zh hmid;have Hon:=zh hon;have Hy:=zh hy;have Hgf:=zh hgf;have Hgs:=zh hgs;clear hcb htb hsb hp ho2 hro hob hk hmid hon hy hgb hgf hgs hown c2 z1 z2 c1' hlen;go_wp2
  go_region
  rw [show bits .or .u8 0 (x*128)=0+x*zAW 0 by rcases hx with rfl|rfl<;>decide];go_wp2;go_end0;have h1:=Hmid.out.done x 0 Hy.out;rw [Int.zero_add,show (8*(q:Int)+((0:Nat):Int)+1)=8*q+1 by simp] at h1;refine ⟨rfl,_,h1,(((Hon.out.setCell (.inl (by simp)) _).setCell Hgs.out _).setCell (.inl (by simp)) _).drew,fun g' hg'=>?_⟩;simp [Value.ownBlock] at hg';subst hg';exact Hgf.out
 ·rw [show (8*q+r+7)/8=q+1 by omega] at hown;obtain ⟨g,cap,cur,rfl,_,hgb,hcell⟩:=zAi hown (by omega);have c3:w.cell? ⟨g,q,none⟩=some (.int .u8 (Zh e.bits q)):=by
   rw [hcell _ (by omega)];simp [Zu,ZP,show q<(e.bits.length+7)/8 by have:=Hqr.out;omega]
  have z3:=ZB hgb q;have hy:=zBY e.bits Hb.out q;generalize hyy:Zh e.bits q=y at*;obtain ⟨hy0,hy1⟩:=hy;have Hyy:=zh hyy;have hg:g≠b:=ZC hgb He.out.cells (by decide);have Hgb:=zh hgb;clear hcell hyy hgb;go_wp2
  go_region
  have Hm:=zGA e.bits;rw [show e.bits.length/8=q by have:=Hqr.out;omega,Hyy.out,Hqr.out,zDM] at Hm;rw [zLu r y x hr hy0 hy1 Hm hx];go_wp2;go_end0;have hmid:EncMid w b tb sb g q r cap e:=by
   have h0:=He.out;have hl:=Hqr.out;refine ⟨hl,hr,?_,h0.tab,h0.sts,?_⟩
   ·have:=h0.cells;rw [hl] at this
    simpa using this
   ·rw [zFv _ (by omega)];exact hown
  refine ⟨rfl,_,hmid.done x y Hyy.out,(((Only.refl _ _).setCell (.inl (by simp [Value.ownBlock])) _).setCell (.inl (by simp)) _).drew,fun g' hg'=> .inl hg'⟩
structure EncTo (w w':World) (b:Nat) (ov ov':Value):Prop where
 only:Only (b::ov.ownBlock.toList) w w'
 new:∀ g,ov'.ownBlock=some g→ov.ownBlock=some g∨w.heap.size≤g
theorem EncTo.refl (w:World) (b:Nat) (ov:Value):EncTo w w b ov ov:=⟨Only.refl _ _,fun _ h=> .inl h⟩
theorem EncTo.trans {w1 w2 w3:World} {b:Nat} {o1 o2 o3:Value} (h:EncTo w1 w2 b o1 o2) (k:EncTo w2 w3 b o2 o3):EncTo w1 w3 b o1 o3:=by
 refine ⟨h.only.trans' k.only ?_,fun g hg=>?_⟩
 ·intro i hi;simp only [List.mem_cons,Option.mem_toList] at hi
  rcases hi with rfl|hi
  ·exact .inl (by simp)
  ·rcases h.new i hi with h1|h1
   ·exact .inl (by simp [h1])
   ·exact .inr h1
 ·rcases k.new g hg with h1|h1
  ·exact h.new g h1
  ·exact .inr (Nat.le_trans h.only.size h1)
theorem EncTo.set {w1 w2:World} {b:Nat} {o1 o2:Value} (h:EncTo w1 w2 b o1 o2) (i:Nat) (u:Value):EncTo w1 (w2.setCell ⟨b,i,none⟩ u) b o1 o2:=
 ⟨h.only.setCell (.inl (by simp)) _,h.new⟩
theorem EncTo.drew {w1 w2:World} {b:Nat} {o1 o2:Value} (h:EncTo w1 w2 b o1 o2):EncTo w1 w2.drew b o1 o2:=⟨h.only.drew,h.new⟩
theorem EncTo.drewN {w1 w2:World} {b:Nat} {o1 o2:Value} (h:EncTo w1 w2 b o1 o2) (n:Nat):EncTo w1 (w2.drewN n) b o1 o2:=⟨h.only.drewN n,h.new⟩
theorem EncIs.put {w:World} {b tb sb:Nat} {ov:Value} {e:Enc} (h:EncIs w b tb sb ov e) (i:Nat) (u:Value) (e':Enc) (hst:e'.st=e.st) (hbits:e'.bits=e.bits)
 (hc:(zBW tb sb e.st.length e.low e.wid e.outs e.begun e.over ov e.bits.length).setIfInBounds i u=zBW tb sb e.st.length e'.low e'.wid e'.outs e'.begun e'.over ov e.bits.length):
 EncIs (w.setCell ⟨b,i,none⟩ u) b tb sb ov e':=by
 refine ⟨?_,zC _ h.tab (ZC h.tab h.cells (by decide)),?_,?_⟩
 ·rw [zB _ h.cells,hc,hst,hbits]
 ·rw [hst];exact zC _ h.sts (ZC h.sts h.cells (by decide))
 ·rw [hbits];refine zF h.out fun k hk=>?_
  obtain ⟨cur,hc⟩:=zD h.out hk;exact Below.heap_setCell _ _ _ _ (ZC hc h.cells (by decide))
theorem EncIs.drew {w:World} {b tb sb:Nat} {ov:Value} {e:Enc} (h:EncIs w b tb sb ov e):EncIs w.drew b tb sb ov e:=⟨h.cells,h.tab,h.sts,zF h.out (fun _ _=>rfl)⟩
theorem EncIs.drewN {w:World} {b tb sb:Nat} {ov:Value} {e:Enc} (h:EncIs w b tb sb ov e) (n:Nat):EncIs (w.drewN n) b tb sb ov e:=⟨h.cells,h.tab,h.sts,zF h.out (fun _ _=>rfl)⟩
theorem EncIs.cellsAt {w:World} {b tb sb:Nat} {ov:Value} {e:Enc} (h:EncIs w b tb sb ov e):w.cell? ⟨b,0,none⟩=some (.pointer (some ⟨tb,0,none⟩))∧w.cell? ⟨b,1,none⟩=some (.slice (some ⟨sb,0,none⟩) e.st.length e.st.length)∧
 w.cell? ⟨b,2,none⟩=some (.int .i64 e.low)∧w.cell? ⟨b,3,none⟩=some (.int .i64 e.wid)∧w.cell? ⟨b,4,none⟩=some (.int .i64 e.outs)∧w.cell? ⟨b,5,none⟩=some (.bool e.begun)∧w.cell? ⟨b,6,none⟩=some (.bool e.over)∧
 w.cell? ⟨b,7,none⟩=some ov∧w.cell? ⟨b,8,none⟩=some (.int .i64 e.bits.length):=by
 refine ⟨?_,?_,?_,?_,?_,?_,?_,?_,?_⟩<;>(rw [zA h.cells];rfl)
def zB9 (w:World) (b i:Nat):Nat:=(intOf ((w.cell? ⟨b,i,none⟩).getD (.int .i64 0))).toNat
theorem zAT {w:World} {b i:Nat} {k:IntKind} {n:Int} (h:w.cell? ⟨b,i,none⟩=some (.int k n)):zB9 w b i=n.toNat:=by
 unfold zB9;rw [h];rfl
def Enc.puts (e:Enc) (x:Int) (j:Nat):Enc:={ e with begun:=true,outs:=j,bits:=(if e.begun then e.bits++[x] else e.bits)++List.replicate (e.outs-j) (1-x) }
theorem Enc.puts_step (e:Enc) (x:Int) (j:Nat) (h:j+1≤e.outs):{ (e.puts x (j+1)).bit (1-x) with outs:=j }=e.puts x j:=by
 unfold Enc.puts Enc.bit;have:e.outs-j=(e.outs-(j+1))+1:=by omega
 simp [this,List.replicate_succ',List.append_assoc]
theorem Enc.puts_zero (e:Enc) (x:Int):e.puts x 0=e.put x:=rfl
theorem Enc.puts_bits (e:Enc) (x:Int) (j:Nat) (hx:x=0∨x=1) (h:∀ y∈e.bits,y=0∨y=1):∀ y∈(e.puts x j).bits,y=0∨y=1:=by
 intro y hy;simp only [Enc.puts,List.mem_append,List.mem_replicate] at hy
 rcases hy with hy|⟨_,rfl⟩
 ·split at hy
  ·rcases List.mem_append.1 hy with h1|h1
   ·exact h y h1
   ·simp at h1;omega
  ·exact h y hy
 ·omega
theorem Enc.puts_len (e:Enc) (x:Int) (j:Nat) (h:j≤e.outs):(e.puts x j).bits.length+j≤e.cost+1:=by
 unfold Enc.puts Enc.cost
 cases e.begun<;>simp<;>omega
theorem zFD (b tb sb:Nat) (ov:Value) (e:Enc) (x:Int) (w:World) (he:EncIs w b tb sb ov e) (hx:x=0∨x=1) (hb:∀ y∈e.bits,y=0∨y=1) (hn:e.cost<900000000):
 Calls Tryz.prog 76 #[.pointer (some ⟨b,0,none⟩),.int .i64 x] w fun r w'=>r=.returned (.tuple #[])∧∃ ov',EncIs w' b tb sb ov' (e.put x)∧EncTo w w' b ov ov':=by
 obtain ⟨-,-,-,-,-,c5,-,-,-⟩:=he.cellsAt;have z5:=ZB he.cells 5;have Hc:=he.cells;have hlen:e.bits.length≤e.cost:=by unfold Enc.cost;omega
 have He:=zh he;have Hb:=zh hb;have Hn:=zh hn;have Hl:=zh hlen;clear he hb hn hlen
 go_enter Tryz.func76,Tryz.ntmps76
 cases hbg:e.begun
 case' false=>
  rw [hbg] at c5;have h1:EncIs (w.setCell ⟨b,5,none⟩ (.bool true)) b tb sb ov (e.puts x e.outs):=He.out.put 5 _ _ rfl (by simp [Enc.puts,hbg]) rfl;have h2:EncTo w (w.setCell ⟨b,5,none⟩ (.bool true)) b ov ov:=(EncTo.refl _ _ _).set _ _;go_wp2;generalize w.setCell ⟨b,5,none⟩ (.bool true)=wz at*
 case' true=>
  rw [hbg] at c5
  go_wp2_with fail
  refine (zGk b tb sb ov e x w He.out hx Hb.out (by have:=Hn.out;have:=Hl.out;omega)).mono ?_;rintro r w1 ⟨rfl,ov1,g1,g2,g3⟩;obtain ⟨-,-,-,-,-,d5,-,-,-⟩:=g1.cellsAt;have y5:=ZB g1.cells 5;have h1:EncIs (w1.setCell ⟨b,5,none⟩ (.bool true)) b tb sb ov1 (e.puts x e.outs):=g1.put 5 _ _ rfl (by simp [Enc.puts,Enc.bit,hbg]) rfl;have h2:EncTo w (w1.setCell ⟨b,5,none⟩ (.bool true)) b ov ov1:=EncTo.set ⟨g2,g3⟩ _ _;clear g1 g2 g3;go_wp2;generalize w1.setCell ⟨b,5,none⟩ (.bool true)=wz at*;clear d5 y5
 all_goals
  have H1:=zh h1;have H2:=zh h2;clear h1 h2 Hc c5 z5 He
  go_loopw [] (fun wr=>∃ (j:Nat) (ov2:Value),j≤e.outs∧EncIs wr b tb sb ov2 (e.puts x j)∧EncTo w wr b ov ov2) (fun wr=>zB9 wr b 4)
  case atStart=>exact ⟨e.outs,_,Nat.le_refl _,H1.out,H2.out⟩
  case round=>
   obtain ⟨j,ov2,hj,hi,ht⟩:=hrel;obtain ⟨-,-,-,-,c4,-,-,-,-⟩:=hi.cellsAt;have c4':wr.cell? ⟨b,4,none⟩=some (.int .i64 (j:Int)):=c4;have hle:(j:Int)≤900000000:=by have:=Hn.out;unfold Enc.cost at this;omega
   have hcn:=zAT c4';clear c4;have Hi:=zh hi;have Ht:=zh ht;clear hi ht
   by_cases hz:j=0
   ·subst hz;rw [Enc.puts_zero] at Hi;go_wp2;go_end0;exact ⟨rfl,_,Hi.out,Ht.out⟩
   ·obtain ⟨i,rfl⟩:∃ i,j=i+1:=⟨j-1,by omega⟩
    go_wp2_with fail
    refine (zGk b tb sb ov2 (e.puts x (i+1)) (1-x) wr Hi.out (by omega) (Enc.puts_bits e x _ hx Hb.out) (by have:=e.puts_len x (i+1) hj;have:=Hn.out;omega)).mono ?_;rintro r w1 ⟨rfl,ov3,g1,g2,g3⟩;obtain ⟨-,-,-,-,d4,-,-,-,-⟩:=g1.cellsAt;have d4':w1.cell? ⟨b,4,none⟩=some (.int .i64 ((i:Int)+1)):=by rw [d4];simp [Enc.bit,Enc.puts]
    have y4:=ZB g1.cells 4;have h1:EncIs (w1.setCell ⟨b,4,none⟩ (.int .i64 i)) b tb sb ov3 (e.puts x i):=by
     rw [←Enc.puts_step e x i hj];exact g1.put 4 _ _ rfl rfl rfl
    have h2:EncTo w (w1.setCell ⟨b,4,none⟩ (.int .i64 i)) b ov ov3:=Ht.out.trans (EncTo.set ⟨g2,g3⟩ _ _);have H3:=zh h1;have H4:=zh h2;clear g1 g2 g3 d4 h1 h2;go_wp2
    go_roundw
    case rel=>exact ⟨i,ov3,by omega,H3.out,H4.out⟩
    case measure=>
     have:=zAT (H3.out.cellsAt.2.2.2.2.1);simp only [Enc.puts] at this;omega
def Enc.twice (f:Enc):Enc:={ f with wid:=2*f.wid,low:=2*f.low }
theorem EncIs.twice {w:World} {b tb sb:Nat} {ov:Value} {f:Enc} (h:EncIs w b tb sb ov f):
 EncIs ((w.setCell ⟨b,3,none⟩ (.int .i64 (f.wid*2))).setCell ⟨b,2,none⟩ (.int .i64 (f.low*2))) b tb sb ov f.twice:=by
 have h1:EncIs (w.setCell ⟨b,3,none⟩ (.int .i64 (f.wid*2))) b tb sb ov { f with wid:=2*f.wid }:=h.put 3 _ _ rfl rfl (by simp [zBW,Int.mul_comm]);exact h1.put 2 _ _ rfl rfl (by simp [zBW,Enc.twice,Int.mul_comm])
theorem Enc.shift_low (f:Enc) (h:f.low<256):f.shift=(f.put 0).twice:=by unfold Enc.shift Enc.twice;rw [if_pos h]
theorem Enc.shift_high (f:Enc) (h:512≤f.low):f.shift=(Enc.put { f with low:=f.low-512 } 1).twice:=by unfold Enc.shift Enc.twice;rw [if_neg (by omega),if_pos h]
theorem Enc.shift_mid (f:Enc) (h:¬ f.low<256) (h2:¬ 512≤f.low):f.shift=Enc.twice { f with low:=f.low-256,outs:=f.outs+1 }:=by unfold Enc.shift Enc.twice;rw [if_neg h,if_neg h2]
theorem zCi (b tb sb:Nat) (ov:Value) (e:Enc) (w:World) (he:EncIs w b tb sb ov e) (hok:e.Ok) (hn:e.cost<800000000) (hw:256≤e.wid*2^8):
 Calls Tryz.prog 75 #[.pointer (some ⟨b,0,none⟩)] w fun r w'=>r=.returned (.tuple #[])∧∃ ov',EncIs w' b tb sb ov' (Enc.norm 8 e)∧EncTo w w' b ov ov':=by
 have He:=zh he;have Hok:=zh hok;have Hn:=zh hn;have Hw:=zh hw;clear he hok hn hw
 go_enter Tryz.func75,Tryz.ntmps75
 go_wp2
 go_loopw [] (fun wr=>∃ (k:Nat) (ov2:Value) (f:Enc),EncIs wr b tb sb ov2 f∧f.Ok∧EncTo w wr b ov ov2∧Enc.norm k f=Enc.norm 8 e∧256≤f.wid*2^k∧f.cost+k≤e.cost+8) (fun wr=>1024-zB9 wr b 3)
 case atStart=>exact ⟨8,ov,e,He.out,Hok.out,EncTo.refl _ _ _,rfl,Hw.out,Nat.le_refl _⟩
 case round=>
  obtain ⟨k,ov2,f,hi,ho,ht,hnorm,hk,hcost⟩:=hrel;obtain ⟨-,-,c2,c3,c4,-,-,-,-⟩:=hi.cellsAt;have y2:=ZB hi.cells 2;have y4:=ZB hi.cells 4;have hl0:=ho.low;have hl1:=ho.top;have hw0:=ho.wid0;have hw1:=ho.wid1;have ho1:(f.outs:Int)≤900000000:=by have:=Hn.out;unfold Enc.cost at*;omega
  have hcn:=zAT c3;have Hi:=zh hi;have Ho:=zh ho;have Ht:=zh ht;have Hk:=zh hk;have Hnorm:=zh hnorm;have Hcost:=zh hcost;have Hcn:=zh hcn;clear hi ho ht hnorm hk hcost hcn
  by_cases hwid:f.wid<256
  ·obtain ⟨k,rfl⟩:∃ j,k=j+1:=⟨k-1,by
    have:=Hk.out
    rcases k with _|k
    ·simp at this;omega
    ·omega⟩
   have hs:=f.ok_shift Ho.out hwid;have hnx:=Enc.norm_step k f hwid;have Hs:Hid (f.shift.Ok∧Enc.norm k f.shift=Enc.norm 8 e∧256≤f.shift.wid*2^k∧f.shift.cost+k≤e.cost+8∧f.shift.wid=2*f.wid):=
    zh ⟨hs.1,hnx▸Hnorm.out,by rw [hs.2.1,Int.mul_comm 2,Int.mul_assoc,Int.mul_comm 2,←Int.pow_succ];exact Hk.out,by have:=hs.2.2;have:=Hcost.out;omega,hs.2.1⟩
   clear hs hnx Hk Hnorm
   by_cases c1:f.low<256
   ·have hsh:=f.shift_low c1
    go_wp2_with fail
    refine (zFD b tb sb ov2 f 0 wr Hi.out (.inl rfl) Ho.out.bits (by have:=Hn.out;have:=Hcost.out;omega)).mono ?_;rintro r w1 ⟨rfl,ov3,g1,g2⟩;obtain ⟨-,-,d2,d3,-,-,-,-,-⟩:=g1.cellsAt;have d2':w1.cell? ⟨b,2,none⟩=some (.int .i64 f.low):=d2;have d3':w1.cell? ⟨b,3,none⟩=some (.int .i64 f.wid):=d3;have x2:=ZB g1.cells 2;have x3:=ZB g1.cells 3;have h1:EncIs ((w1.setCell ⟨b,3,none⟩ (.int .i64 (f.wid*2))).setCell ⟨b,2,none⟩ (.int .i64 (f.low*2))) b tb sb ov3 f.shift:=hsh▸g1.twice;have h2:EncTo w ((w1.setCell ⟨b,3,none⟩ (.int .i64 (f.wid*2))).setCell ⟨b,2,none⟩ (.int .i64 (f.low*2))) b ov ov3:=Ht.out.trans ((g2.set _ _).set _ _);have H1:=zh h1;have H2:=zh h2;clear d2 d3 g1 g2 h1 h2 hsh;go_wp2
    go_roundw
    case rel=>exact ⟨k,ov3,_,H1.out,Hs.out.1,H2.out,Hs.out.2.1,Hs.out.2.2.1,Hs.out.2.2.2.1⟩
    case measure=>
     have h3:=zAT (H1.out.cellsAt.2.2.2.1);have h4:=Hs.out.2.2.2.2;have h5:=Hcn.out;omega
   ·by_cases c2:512≤f.low
    ·have hsh:=f.shift_high c2;have h0:EncIs (wr.setCell ⟨b,2,none⟩ (.int .i64 (f.low-512))) b tb sb ov2 { f with low:=f.low-512 }:=Hi.out.put 2 _ _ rfl rfl rfl;have hok2:Enc.Ok { f with low:=f.low-512 }:=f.ok_low _ _ _ Ho.out (by omega) (by omega) hw0 hw1;have H0:=zh h0;have Hok2:=zh hok2;clear h0 hok2
     go_wp2_with fail
     refine (zFD b tb sb ov2 _ 1 _ H0.out (.inr rfl) Hok2.out.bits (by have:=Hn.out;have:=Hcost.out;unfold Enc.cost at*;dsimp only;omega)).mono ?_;rintro r w1 ⟨rfl,ov3,g1,g2⟩;obtain ⟨-,-,d2,d3,-,-,-,-,-⟩:=g1.cellsAt;have d2':w1.cell? ⟨b,2,none⟩=some (.int .i64 (f.low-512)):=d2;have d3':w1.cell? ⟨b,3,none⟩=some (.int .i64 f.wid):=d3;have x2:=ZB g1.cells 2;have x3:=ZB g1.cells 3;have h1:EncIs ((w1.setCell ⟨b,3,none⟩ (.int .i64 (f.wid*2))).setCell ⟨b,2,none⟩ (.int .i64 ((f.low-512)*2))) b tb sb ov3 f.shift:=hsh▸g1.twice;have h2:EncTo w ((w1.setCell ⟨b,3,none⟩ (.int .i64 (f.wid*2))).setCell ⟨b,2,none⟩ (.int .i64 ((f.low-512)*2))) b ov ov3:=Ht.out.trans ((((EncTo.refl _ _ _).set _ _).trans g2).set _ _ |>.set _ _);have H1:=zh h1;have H2:=zh h2;clear d2 d3 g1 g2 h1 h2 hsh;go_wp2
     go_roundw
     case rel=>exact ⟨k,ov3,_,H1.out,Hs.out.1,H2.out,Hs.out.2.1,Hs.out.2.2.1,Hs.out.2.2.2.1⟩
     case measure=>
      have h3:=zAT (H1.out.cellsAt.2.2.2.1);have h4:=Hs.out.2.2.2.2;have h5:=Hcn.out;omega
    ·have hsh:=f.shift_mid c1 c2;have h0:EncIs (wr.setCell ⟨b,2,none⟩ (.int .i64 (f.low-256))) b tb sb ov2 { f with low:=f.low-256 }:=Hi.out.put 2 _ _ rfl rfl rfl;have h00:EncIs ((wr.setCell ⟨b,2,none⟩ (.int .i64 (f.low-256))).setCell ⟨b,4,none⟩ (.int .i64 ((f.outs:Int)+1))) b tb sb ov2 { f with low:=f.low-256,outs:=f.outs+1 }:=h0.put 4 _ _ rfl rfl rfl;have h1:EncIs ((((wr.setCell ⟨b,2,none⟩ (.int .i64 (f.low-256))).setCell ⟨b,4,none⟩ (.int .i64 ((f.outs:Int)+1))).setCell ⟨b,3,none⟩ (.int .i64 (f.wid*2))).setCell ⟨b,2,none⟩ (.int .i64 ((f.low-256)*2))) b tb sb ov2 f.shift:=hsh▸h00.twice;have h2:=((((Ht.out.set 2 (.int .i64 (f.low-256))).set 4 (.int .i64 ((f.outs:Int)+1))).set 3 (.int .i64 (f.wid*2))).set 2 (.int .i64 ((f.low-256)*2)));have x3:=ZB Hi.out.cells 3;have H1:=zh h1;have H2:=zh h2;clear h0 h00 h1 h2 hsh;go_wp2
     go_roundw
     case rel=>exact ⟨k,ov2,_,H1.out,Hs.out.1,H2.out,Hs.out.2.1,Hs.out.2.2.1,Hs.out.2.2.2.1⟩
     case measure=>
      have h3:=zAT (H1.out.cellsAt.2.2.2.1);have h4:=Hs.out.2.2.2.2;have h5:=Hcn.out;omega
  ·have hd:=Enc.norm_done k f (by omega);have H1:Hid (EncIs wr b tb sb ov2 (Enc.norm 8 e)):=zh (by rw [←Hnorm.out,hd];exact Hi.out);clear hd;go_wp2;go_end0;exact ⟨rfl,_,H1.out,Ht.out⟩
theorem zH4 (b tb sb:Nat) (ov:Value) (e:Enc) (x:Int) (w:World) (he:EncIs w b tb sb ov e):
 Calls Tryz.prog 74 #[.pointer (some ⟨b,0,none⟩),.int .i64 x] w fun r w'=>r=.returned (.int .i64 (Zc (e.may x)))∧w=w':=by
 obtain ⟨-,-,-,-,-,-,c6,-,-⟩:=he.cellsAt;clear he;have hm:e.may x=((x==0||x==1)&& !e.over):=rfl;have Hm:=zh hm;generalize e.may x=m at*;generalize e.over=o at*;clear hm
 go_enter Tryz.func74,Tryz.ntmps74
 by_cases h:x=0∨x=1
 ·rcases h with rfl|rfl<;>cases o<;>go_wp2<;>go_ret<;>exact ⟨zq (by rw [Hm.out];rfl),rfl⟩
 ·have hf:Zc m=501:=by
   rw [Hm.out,show (x==0)=false by simp;omega,show (x==1)=false by simp;omega]
   rfl
  have Hf:=zh hf;clear hf;go_wp2<;>go_ret<;>exact ⟨zq Hf.out.symm,rfl⟩
theorem EncIs.state {w:World} {b tb sb:Nat} {ov:Value} {e:Enc} (h:EncIs w b tb sb ov e) (i:Nat) (hi:i<e.st.length):w.cell? ⟨sb,i,none⟩=some (.int .i64 (e.st.getD i 0)):=by
 rw [zA h.sts];exact zBh _ _ hi
theorem EncIs.setState {w:World} {b tb sb:Nat} {ov:Value} {e:Enc} (h:EncIs w b tb sb ov e) (i:Nat) (v:Int):
 EncIs (w.setCell ⟨sb,i,none⟩ (.int .i64 v)) b tb sb ov { e with st:=e.st.set i v }:=by
 refine ⟨?_,zC _ h.tab (ZC h.tab h.sts (by decide)),?_,?_⟩
 ·have:=zC (i:=i) (.int .i64 v) h.cells (ZC h.cells h.sts (by decide))
  simpa using this
 ·rw [zB _ h.sts,zBu]
 ·refine zF h.out fun k hk=>?_
  obtain ⟨cur,hc⟩:=zD h.out hk;exact Below.heap_setCell _ _ _ _ (ZC hc h.sts (by decide))
theorem Enc.narrow_likely (e:Enc) (i:Nat) (x s l:Int) (hs:e.st.getD i 0=s) (hl:Zz (e.st.getD i 0) (e.wid/64%4)=l) (h:x=s%2):
 e.narrow i x={ e with wid:=e.wid-l,st:=e.st.set i (zo s true) }:=by
 unfold Enc.narrow;dsimp only;rw [if_pos (by rw [hs];exact h),hl,hs]
theorem Enc.narrow_other (e:Enc) (i:Nat) (x s l:Int) (hs:e.st.getD i 0=s) (hl:Zz (e.st.getD i 0) (e.wid/64%4)=l) (h:¬ x=s%2):
 e.narrow i x={ e with low:=e.low+(e.wid-l),wid:=l,st:=e.st.set i (zo s false) }:=by
 unfold Enc.narrow;dsimp only;rw [if_neg (by rw [hs];exact h),hl,hs]
structure EncGo (w w':World) (b sb:Nat) (ov ov':Value):Prop where
 only:Only (b::sb::ov.ownBlock.toList) w w'
 new:∀ g,ov'.ownBlock=some g→ov.ownBlock=some g∨w.heap.size≤g
theorem EncTo.go {w w':World} {b:Nat} {ov ov':Value} (h:EncTo w w' b ov ov') (sb:Nat):EncGo w w' b sb ov ov':=
 ⟨h.only.mono (by intro i hi;simp only [List.mem_cons] at*;rcases hi with hi|hi<;>simp [hi]),h.new⟩
theorem EncGo.refl (w:World) (b sb:Nat) (ov:Value):EncGo w w b sb ov ov:=⟨Only.refl _ _,fun _ h=> .inl h⟩
theorem EncGo.trans {w1 w2 w3:World} {b sb:Nat} {o1 o2 o3:Value} (h:EncGo w1 w2 b sb o1 o2) (k:EncGo w2 w3 b sb o2 o3):EncGo w1 w3 b sb o1 o3:=by
 refine ⟨h.only.trans' k.only ?_,fun g hg=>?_⟩
 ·intro i hi;simp only [List.mem_cons,Option.mem_toList] at hi
  rcases hi with rfl|rfl|hi
  ·exact .inl (by simp)
  ·exact .inl (by simp)
  ·rcases h.new i hi with h1|h1
   ·exact .inl (by simp [h1])
   ·exact .inr h1
 ·rcases k.new g hg with h1|h1
  ·exact h.new g h1
  ·exact .inr (Nat.le_trans h.only.size h1)
theorem EncGo.set {w1 w2:World} {b sb:Nat} {o1 o2:Value} (h:EncGo w1 w2 b sb o1 o2) (i:Nat) (u:Value):EncGo w1 (w2.setCell ⟨b,i,none⟩ u) b sb o1 o2:=
 ⟨h.only.setCell (.inl (by simp)) _,h.new⟩
theorem EncGo.setS {w1 w2:World} {b sb:Nat} {o1 o2:Value} (h:EncGo w1 w2 b sb o1 o2) (i:Nat) (u:Value):EncGo w1 (w2.setCell ⟨sb,i,none⟩ u) b sb o1 o2:=
 ⟨h.only.setCell (.inl (by simp)) _,h.new⟩
theorem EncGo.drewN {w1 w2:World} {b sb:Nat} {o1 o2:Value} (h:EncGo w1 w2 b sb o1 o2) (n:Nat):EncGo w1 (w2.drewN n) b sb o1 o2:=⟨h.only.drewN n,h.new⟩
theorem EncGo.drew {w1 w2:World} {b sb:Nat} {o1 o2:Value} (h:EncGo w1 w2 b sb o1 o2):EncGo w1 w2.drew b sb o1 o2:=⟨h.only.drew,h.new⟩
theorem zMz (b tb sb:Nat) (ov:Value) (e:Enc) (c x:Int) (w:World) (he:EncIs w b tb sb ov e) (hg:e.Good) (hn:e.cost<700000000):
 Calls Tryz.prog 229 #[.pointer (some ⟨b,0,none⟩),.int .i64 c,.int .i64 x] w fun r w'=>r=.returned (.int .i64 (Zc (e.canBin c x)))∧∃ ov',EncIs w' b tb sb ov' (e.bin c x)∧EncGo w w' b sb ov ov':=by
 have hmay:=zH4 b tb sb ov e x w he
 by_cases hm:e.may x=true
 ·rw [hm] at hmay
  by_cases hc:0≤c∧c<e.st.length
  ·have hcan:e.canBin c x=true:=by unfold Enc.canBin;rw [hm];simpa using hc
   have hbin:e.bin c x=Enc.norm 8 (e.narrow c.toNat x):=by unfold Enc.bin;rw [if_pos hcan]
   rw [hcan,hbin];obtain ⟨hc0,hc1⟩:=hc;obtain ⟨i,rfl⟩:=Int.eq_ofNat_of_zero_le hc0;rw [Int.toNat_natCast];have hx:=(e.may_bit x hm).1;have hnar:=e.ok_narrow i x hg.ok hg.wide;have hs:=hg.ok.st i;have hsp:=zC0 (e.st.getD i 0) hs.1 hs.2;obtain ⟨k,r,hkr,hk,hr⟩:=hsp;have hw0:=hg.wide;have hw1:=hg.ok.wid1;have hlo0:=hg.ok.low;have hlo1:=hg.ok.top;obtain ⟨q,hq,hq4⟩:∃ q:Nat,e.wid/64%4=q∧q<4:=⟨(e.wid/64%4).toNat,by omega,by omega⟩;obtain ⟨less,hless⟩:∃ l,l=widthL.getD (k*4+q) 0:=⟨_,rfl⟩;have hwo:Zz (e.st.getD i 0) (e.wid/64%4)=less:=by rw [hless,hq,hkr];unfold Zz;congr 1;omega
   have hlr:=zCH (k*4+q) (by omega);rw [←hless] at hlr;have hcl:i<e.st.length:=by omega
   have c9:=he.state i hcl;have ct:=zNI he.tab (k*4+q) (by omega);rw [←hless,←Nat.add_assoc] at ct;obtain ⟨c0,c1,c2,c3,-,-,-,-,-⟩:=he.cellsAt;have z2:=ZB he.cells 2;have z3:=ZB he.cells 3;have zs:=ZB he.sts i;rw [hkr] at c9;obtain ⟨L,hL⟩:∃ L,L=e.st.length:=⟨_,rfl⟩;obtain ⟨lo,hlo⟩:∃ l,l=e.low:=⟨_,rfl⟩;obtain ⟨wi,hwi⟩:∃ l,l=e.wid:=⟨_,rfl⟩;rw [←hL] at c1 hcl hc1;rw [←hlo] at c2 hlo0 hlo1;rw [←hwi] at c3 hw0 hw1 hlo1 hq;have hd1:Int.tdiv (2*(k:Int)+r) 2=k:=by rw [Int.tdiv_eq_ediv_of_nonneg (by omega)];omega
   have hd2:Int.tmod (2*(k:Int)+r) 2=r:=by rw [Int.tmod_eq_emod_of_nonneg (by omega)];omega
   have hd3:Int.tmod (Int.tdiv wi 64) 4=q:=by rw [Int.tdiv_eq_ediv_of_nonneg (by omega),Int.tmod_eq_emod_of_nonneg (by omega)];exact hq
   have hsb:sb≠b:=ZC he.sts he.cells (by decide);have htb:tb≠b:=ZC he.tab he.cells (by decide);have hts:tb≠sb:=ZC he.tab he.sts (by decide);obtain ⟨hlr0,hlr1⟩:=hlr;have He:=zh he;have Hnar:=zh hnar;have Hn:=zh hn;have HL:=zh hL;have Hlo:=zh hlo;have Hwi:=zh hwi;have Hkr:=zh hkr;have Hwo:=zh hwo;have Hhs:=zh hs;have Hmay:=zh hmay;clear he hnar hn hL hlo hwi hkr hwo hs hless hbin hcan hm hg hmay
   go_enter Tryz.func229,Tryz.ntmps229
   go_wp2_with fail
   refine Hmay.out.mono ?_;rintro r0 w0 ⟨rfl,rfl⟩;rw [show Zc true=0 from rfl]
   by_cases hxr:x=(r:Int)
   ·have hb1:(x==(r:Int))=true:=by simp [hxr]
    go_wp2
    go_quiet (fail)
    go_wp2;have h1:EncIs ((w.drewN nq).setCell ⟨b,3,none⟩ (.int .i64 (wi-less))) b tb sb ov { e with wid:=e.wid-less }:=(He.out.drewN nq).put 3 _ _ rfl rfl (by rw [Hwi.out];rfl);have h2:EncGo w ((w.drewN nq).setCell ⟨b,3,none⟩ (.int .i64 (wi-less))) b sb ov ov:=((EncGo.refl _ _ _ _).drewN nq).set _ _;generalize (w.drewN nq).setCell ⟨b,3,none⟩ (.int .i64 (wi-less))=wq at*;have htq:=h1.tab;obtain ⟨e0,e1,-,-,-,-,-,-,-⟩:=h1.cellsAt;have e9:=h1.state i (by rw [←HL.out];exact hcl);have ez:=ZB h1.sts i;dsimp only at e9 e1;rw [Hkr.out] at e9;rw [←HL.out] at e1;have H1:=zh h1;have H2:=zh h2;clear h1 h2 c0 c1 c2 c3 c9 ct z2 z3 zs
    go_region_held3 (fun w'=>w'.cell? ⟨b,0,none⟩=some (.pointer (some ⟨tb,0,none⟩))∧w'.cell? ⟨b,1,none⟩=some (.slice (some ⟨sb,0,none⟩) L L)) (first|exact ⟨e0,e1⟩|go_keep|assumption)
     (first|(go_at_call 239;refine (zEb tb (2*(k:Int)+r) true wq.drew htq (by omega) (by omega)).mono ?_;rintro r2 w2 ⟨rfl,rfl⟩))
    have h3:EncIs (wq.setCell ⟨sb,i,none⟩ (.int .i64 (zo (2*(k:Int)+r) true))).drew b tb sb ov (e.narrow i x):=by
     rw [e.narrow_likely i x (2*(k:Int)+r) less Hkr.out Hwo.out (by omega)];exact (H1.out.setState i _).drew
    have h4:EncGo w (wq.setCell ⟨sb,i,none⟩ (.int .i64 (zo (2*(k:Int)+r) true))).drew b sb ov ov:=(H2.out.setS _ _).drew;generalize (wq.setCell ⟨sb,i,none⟩ (.int .i64 (zo (2*(k:Int)+r) true))).drew=wn at*;have H3:=zh h3;have H4:=zh h4;clear h3 h4 e0 e1 e9 ez htq H1 H2;subst hxr
    go_wp2_with fail
    refine (zCi b tb sb ov _ wn H3.out Hnar.out.1 (by rw [Hnar.out.2.1];have:=Hn.out;omega) Hnar.out.2.2).mono ?_;rintro r3 w3 ⟨rfl,ov3,g1,g2⟩;have H5:=zh g1;have H6:=zh (H4.out.trans (g2.go sb));clear g1 g2;go_wp2;go_ret;exact ⟨rfl,ov3,H5.out,H6.out⟩
   ·have hb1:(x==(r:Int))=false:=by simp [hxr]
    go_wp2
    go_quiet (fail)
    go_wp2
    go_region
    go_wp2;have h1:EncIs (((((w.drewN nq).setCell ⟨b,3,none⟩ (.int .i64 (wi-less))).setCell ⟨b,2,none⟩ (.int .i64 (lo+(wi-less)))).setCell ⟨b,3,none⟩ (.int .i64 less)).drew) b tb sb ov { e with low:=e.low+(e.wid-less),wid:=less }:=by
     have g1:EncIs ((w.drewN nq).setCell ⟨b,3,none⟩ (.int .i64 (wi-less))) b tb sb ov { e with wid:=e.wid-less }:=(He.out.drewN nq).put 3 _ _ rfl rfl (by rw [Hwi.out];rfl);have g2:EncIs (((w.drewN nq).setCell ⟨b,3,none⟩ (.int .i64 (wi-less))).setCell ⟨b,2,none⟩ (.int .i64 (lo+(wi-less)))) b tb sb ov { e with low:=e.low+(e.wid-less),wid:=e.wid-less }:=g1.put 2 _ _ rfl rfl (by rw [Hwi.out,Hlo.out];rfl);exact (g2.put 3 (.int .i64 less) { e with low:=e.low+(e.wid-less),wid:=less } rfl rfl rfl).drew
    have h2:EncGo w (((((w.drewN nq).setCell ⟨b,3,none⟩ (.int .i64 (wi-less))).setCell ⟨b,2,none⟩ (.int .i64 (lo+(wi-less)))).setCell ⟨b,3,none⟩ (.int .i64 less)).drew) b sb ov ov:=
     (((((EncGo.refl _ _ _ _).drewN nq).set _ _).set _ _).set _ _).drew
    generalize (((((w.drewN nq).setCell ⟨b,3,none⟩ (.int .i64 (wi-less))).setCell ⟨b,2,none⟩ (.int .i64 (lo+(wi-less)))).setCell ⟨b,3,none⟩ (.int .i64 less)).drew)=wq at*;have htq:=h1.tab;obtain ⟨e0,e1,-,-,-,-,-,-,-⟩:=h1.cellsAt;have e9:=h1.state i (by show i<e.st.length;rw [←HL.out];exact hcl);have ez:=ZB h1.sts i;dsimp only at e9 e1;rw [Hkr.out] at e9;rw [←HL.out] at e1;have H1:=zh h1;have H2:=zh h2;clear h1 h2 c0 c1 c2 c3 c9 ct z2 z3 zs
    go_region_held3 (fun w'=>w'.cell? ⟨b,0,none⟩=some (.pointer (some ⟨tb,0,none⟩))∧w'.cell? ⟨b,1,none⟩=some (.slice (some ⟨sb,0,none⟩) L L)) (first|exact ⟨e0,e1⟩|go_keep|assumption)
     (first|(go_at_call 239;refine (zEb tb (2*(k:Int)+r) false wq.drew htq (by omega) (by omega)).mono ?_;rintro r2 w2 ⟨rfl,rfl⟩))
    have h3:EncIs (wq.setCell ⟨sb,i,none⟩ (.int .i64 (zo (2*(k:Int)+r) false))).drew b tb sb ov (e.narrow i x):=by
     rw [e.narrow_other i x (2*(k:Int)+r) less Hkr.out Hwo.out (by omega)];exact (H1.out.setState i _).drew
    have h4:EncGo w (wq.setCell ⟨sb,i,none⟩ (.int .i64 (zo (2*(k:Int)+r) false))).drew b sb ov ov:=(H2.out.setS _ _).drew;generalize (wq.setCell ⟨sb,i,none⟩ (.int .i64 (zo (2*(k:Int)+r) false))).drew=wn at*;have H3:=zh h3;have H4:=zh h4;clear h3 h4 e0 e1 e9 ez htq H1 H2
    go_wp2_with fail
    refine (zCi b tb sb ov _ wn H3.out Hnar.out.1 (by rw [Hnar.out.2.1];have:=Hn.out;omega) Hnar.out.2.2).mono ?_;rintro r3 w3 ⟨rfl,ov3,g1,g2⟩;have H5:=zh g1;have H6:=zh (H4.out.trans (g2.go sb));clear g1 g2;go_wp2;go_ret;exact ⟨rfl,ov3,H5.out,H6.out⟩
  ·have hcan:e.canBin c x=false:=by unfold Enc.canBin;rw [hm];simpa using fun h=>Int.not_lt.1 fun h2=>hc ⟨h,h2⟩
   have hbin:e.bin c x=e:=by unfold Enc.bin;rw [hcan];rfl
   rw [hcan,hbin];obtain ⟨-,c1,-,-,-,-,-,-,-⟩:=he.cellsAt;obtain ⟨L,hL⟩:∃ L,L=e.st.length:=⟨_,rfl⟩;rw [←hL] at c1 hc;have He:=zh he;have Hmay:=zh hmay;clear he hcan hbin hL hmay hn hg hm
   go_enter Tryz.func229,Tryz.ntmps229
   go_wp2_with fail
   refine Hmay.out.mono ?_;rintro r0 w0 ⟨rfl,rfl⟩;rw [show Zc true=0 from rfl]
   by_cases h0:c<0
   ·go_wp2<;>go_ret<;>exact ⟨rfl,ov,He.out,EncGo.refl _ _ _ _⟩
   ·have h1:(L:Int)≤c:=by omega
    go_wp2<;>go_ret<;>exact ⟨rfl,ov,He.out,EncGo.refl _ _ _ _⟩
 ·have hcan:e.canBin c x=false:=by unfold Enc.canBin;simp [hm]
  have hbin:e.bin c x=e:=by unfold Enc.bin;rw [hcan];rfl
  rw [hcan,hbin];rw [show e.may x=false by simpa using hm] at hmay;have He:=zh he;have Hmay:=zh hmay;clear he hcan hbin hmay hn hg hm
  go_enter Tryz.func229,Tryz.ntmps229
  go_wp2_with fail
  refine Hmay.out.mono ?_;rintro r0 w0 ⟨rfl,rfl⟩;rw [show Zc false=501 from rfl];go_wp2;go_ret;exact ⟨rfl,ov,He.out,EncGo.refl _ _ _ _⟩
def ZW (x:Nat):Nat→List Int
 |0=>[]
 |n+1=>((x/2^n%2:Nat):Int)::ZW x n
theorem zQ (x:Nat):∀ n,(ZW x n).length=n
 |0=>rfl
 |n+1=>by simp [ZW,zQ x n]
theorem zBw (x:Nat):∀ n,∀ y∈ZW x n,y=0∨y=1
 |0,y,h=>by simp [ZW] at h
 |n+1,y,h=>by
  rcases List.mem_cons.1 h with rfl|h
  ·omega
  ·exact zBw x n y h
structure WrIs (w:World) (b:Nat) (ov:Value) (bs:List Int):Prop where
 cells:∃ c:Int,w.heap[b]? =some (.cells #[ov,.int .i64 bs.length,.int .i64 c] 100 (0,0))
 out:w.ownsRow 0 5 1 ov (ZP bs).length (Zu (ZP bs))
 bit:∀ y∈bs,y=0∨y=1
structure WrMid (w:World) (b g q r cap:Nat) (bs:List Int):Prop where
 len:bs.length=8*q+r
 low:r<8
 cells:∃ c:Int,w.heap[b]? =some (.cells #[.slice (some ⟨g,0,none⟩) (q+1) cap,.int .i64 (8*(q:Int)+r),.int .i64 c] 100 (0,0))
 out:w.ownsRow 0 5 1 (.slice (some ⟨g,0,none⟩) (q+1) cap) (q+1) (Zu (zBT bs))
 bit:∀ y∈bs,y=0∨y=1
theorem WrMid.done {w:World} {b g q r cap:Nat} {bs:List Int} (h:WrMid w b g q r cap bs) (x y:Int) (hy:Zh bs q=y) (hx:x=0∨x=1):
 WrIs ((w.setCell ⟨g,q,none⟩ (.int .u8 (y+x*zAW r))).drew.setCell ⟨b,1,none⟩ (.int .i64 (8*(q:Int)+r+1))) b (.slice (some ⟨g,0,none⟩) (q+1) cap) (bs++[x]):=by
 have hlow:=h.low;obtain ⟨c,hc⟩:=h.cells;obtain ⟨cur,hg⟩:=zD h.out rfl;have n1:b≠g:=ZC hc hg (by decide);have hq:bs.length/8=q:=by have:=h.len;omega
 have hp:ZP (bs++[x])=(zBT bs).set q (y+x*zAW r):=by
  rw [zEu,hq,hy,h.len,zDM]
 have hl:(ZP (bs++[x])).length=q+1:=by rw [hp,List.length_set,zDJ,hq]
 refine ⟨⟨c,?_⟩,?_,?_⟩
 ·rw [zB (w:=(w.setCell ⟨g,q,none⟩ (.int .u8 (y+x*zAW r))).drew) _ (zC _ hc n1)];have hb:((bs++[x]).length:Int)=8*(q:Int)+r+1:=by simp [h.len]
  rw [hb]
  rfl
 ·rw [hl,hp,←zFM];have h1:=zEx (.int .u8 (y+x*zAW r)) h.out (i:=q) (by omega);refine zF (w:=w.setCell ⟨g,q,none⟩ (.int .u8 (y+x*zAW r))) h1 ?_;intro k hk;simp [Value.ownBlock] at hk;subst hk;exact Below.heap_setCell _ _ _ _ (fun e=>n1 e.symm)
 ·intro z hz
  rcases List.mem_append.1 hz with hz|hz
  ·exact h.bit z hz
  ·rw [List.mem_singleton.1 hz];exact hx
theorem zLq (b:Nat) (c:Int) (w:World) (hc:w.cell? ⟨b,2,none⟩=some (.int .i64 c)) (hz:w.frozen? ⟨b,2,none⟩=false):
 Calls Tryz.prog 97 #[.pointer (some ⟨b,2,none⟩),.int .i64 1] w fun r w'=>(∃ s,r=.returned (.int .i64 s))∧∃ s,w'=w.setCell ⟨b,2,none⟩ (.int .i64 s):=by
 obtain ⟨s,hs⟩:∃ s,s=IntKind.i64.wrap (c+1):=⟨_,rfl⟩;have hadd:=run_call_add (P:=Tryz.prog) Tryz.func132 (by kernel_rfl) (by kernel_rfl) (by kernel_rfl) .i64 (by kernel_rfl) (y:=1) (s:=s) hc hz (by simp [go_sem,hs]);clear hs
 go_enter Tryz.func97,Tryz.ntmps97
 go_wp2;go_ret;exact ⟨⟨_,rfl⟩,_,rfl⟩
theorem WrIs.only {w w':World} {b:Nat} {ov:Value} {bs:List Int} {S:List Nat} (h:WrIs w b ov bs) (ho:Only S w w') (h1:b∉S) (h2:∀ g,ov.ownBlock=some g→g∉S):WrIs w' b ov bs:=by
 obtain ⟨c,hc⟩:=h.cells;refine ⟨⟨c,ho.heap hc h1⟩,zF h.out fun g hg=>?_,h.bit⟩;obtain ⟨cur,hk⟩:=zD h.out hg;exact ho.block g (lt_of_block hk) (h2 g hg)
theorem WrIs.drewN {w:World} {b:Nat} {ov:Value} {bs:List Int} (h:WrIs w b ov bs) (n:Nat):WrIs (w.drewN n) b ov bs:=⟨h.cells,zF h.out (fun _ _=>rfl),h.bit⟩
theorem WrIs.cast {w:World} {b:Nat} {ov:Value} {bs cs:List Int} (h:WrIs w b ov bs) (e:bs=cs):WrIs w b ov cs:=e▸h
theorem WrIs.count {w:World} {b:Nat} {ov:Value} {bs:List Int} (h:WrIs w b ov bs) (s:Int):WrIs (w.setCell ⟨b,2,none⟩ (.int .i64 s)) b ov bs:=by
 obtain ⟨c,hc⟩:=h.cells;refine ⟨⟨s,by rw [zB _ hc];rfl⟩,zF h.out fun g hg=>?_,h.bit⟩;obtain ⟨cur,hk⟩:=zD h.out hg;exact Below.heap_setCell _ _ _ _ (ZC hk hc (by decide))
theorem zMK (x k:Nat) (hx:x<4294967296):bits .and .u64 ((x:Int)/2^k) 1=((x/2^k%2:Nat):Int):=by
 have e:((x:Int)/2^k)=((x/2^k:Nat):Int):=by simp
 rw [e];generalize hy:x/2^k=y;have hlt:y<4294967296:=by rw [←hy];exact Nat.lt_of_le_of_lt (Nat.div_le_self _ _) hx
 unfold bits;have e1:BitVec.ofInt 64 (y:Int)=BitVec.ofNat 64 y:=by simp
 have e2:BitVec.ofInt 64 (1:Int)=BitVec.ofNat 64 1:=by simp
 show IntKind.u64.wrap ((BitVec.ofInt 64 (y:Int)&&& BitVec.ofInt 64 (1:Int)).toNat:Int)=_
 rw [e1,e2,BitVec.toNat_and,BitVec.toNat_ofNat,BitVec.toNat_ofNat,Nat.mod_eq_of_lt (show y<2^64 by omega),Nat.mod_eq_of_lt (show 1<2^64 by decide),Nat.and_one_is_mod,IntKind.wrap_u64];omega
theorem zEe (b:Nat) (ov:Value) (bs:List Int) (x n:Nat) (w:World) (h:WrIs w b ov bs) (hx:x<4294967296) (hn:n≤64) (hlen:bs.length<1000000000):
 Calls Tryz.prog 59 #[.pointer (some ⟨b,0,none⟩),.int .u64 x,.int .i64 n] w fun r w'=>r=.returned (.tuple #[])∧∃ ov',WrIs w' b ov' (bs++ZW x n)∧EncTo w w' b ov ov':=by
 obtain ⟨c,hc⟩:=h.cells;have c2:w.cell? ⟨b,2,none⟩=some (.int .i64 c):=by rw [zA hc];rfl
 have z2:=ZB hc 2;have H:=zh h;have Hx:=zh hx;have Hl:=zh hlen;clear h hc hx hlen
 go_enter Tryz.func59,Tryz.ntmps59
 go_wp2_with fail
 refine (zLq b c w c2 z2).mono ?_;rintro r w1 ⟨⟨s1,rfl⟩,s,rfl⟩;have H1:Hid (WrIs (w.setCell ⟨b,2,none⟩ (.int .i64 s)) b ov bs):=zh (H.out.count s);have T1:Hid (EncTo w (w.setCell ⟨b,2,none⟩ (.int .i64 s)) b ov ov):=zh ((EncTo.refl _ _ _).set _ _);clear c2 z2;go_wp2;generalize w.setCell ⟨b,2,none⟩ (.int .i64 s)=wz at*
 go_loopw [6] (fun q wr=>∃ (m:Nat) (dn:List Int) (ov2:Value),q=.int .i64 ((m:Int)-1)∧m≤n∧Hid (dn++ZW x m=bs++ZW x n)∧dn.length+m=bs.length+n∧WrIs wr b ov2 dn∧EncTo w wr b ov ov2) (fun q _=>(intOf q+1).toNat)
 case atStart=>exact ⟨n,bs,ov,rfl,Nat.le_refl _,zh rfl,rfl,H1.out,T1.out⟩
 case round=>
  obtain ⟨m,dn,ov2,rfl,hm,hd,hl,hi,ht⟩:=hrel;clear H H1 T1
  by_cases hz:m=0
  ·subst hz;have e:dn=bs++ZW x n:=by have:=hd.out;simpa [ZW] using this
   have Hi:=zh (hi.cast e);have Ht:=zh ht;clear hi ht hd e;go_wp2;go_end0;exact ⟨rfl,_,Hi.out,Ht.out⟩
  ·obtain ⟨k,rfl⟩:∃ k,m=k+1:=⟨m-1,by omega⟩;have hk:(((k+1:Nat):Int)-1)=(k:Int):=by omega
   rw [hk];obtain ⟨v,hv,hv2⟩:∃ v:Nat,v=x/2^k%2∧v<2:=⟨_,rfl,Nat.mod_lt _ (by decide)⟩;have hbit:=zMK x k Hx.out;rw [←hv] at hbit;have hd2:Hid ((dn++[(v:Int)])++ZW x k=bs++ZW x n):=zh (by rw [←hd.out,hv,List.append_assoc];rfl);obtain ⟨q,r,hqr,hr⟩:∃ q r:Nat,dn.length=8*q+r∧r<8:=⟨dn.length/8,dn.length%8,by omega,by omega⟩;obtain ⟨c3,hc3⟩:=hi.cells;have hown:=hi.out;rw [zR,hqr] at hown;have c1:wr.cell? ⟨b,1,none⟩=some (.int .i64 (8*(q:Int)+r)):=by rw [zA hc3,hqr];simp
   have c2:wr.cell? ⟨b,0,none⟩=some ov2:=by rw [zA hc3];rfl
   have z1:=ZB hc3 0;have z2:=ZB hc3 1;have hqb:q<1000000000:=by have:=Hl.out;omega
   have Hi:=zh hi;have Ht:=zh ht;have Hqr:=zh hqr;have Hv:=zh hv;have Hll:=zh hl;have Hc3:=zh hc3;clear hi ht hqr hv hd hl hc3 hz hk
   by_cases h8:r=0
   ·subst h8;rw [show (8*q+0+7)/8=q by omega] at hown
    go_wp2_with (at_builtin;refine zf rfl _ _ rfl zL8 0 _ _ _ _ hown rfl rfl (by simp) rfl (by omega) (by decide) (by omega) ?_)
    intro g cap w2 hp;have hob:ov2.ownBlock≠some b:=fun h3=>by
     obtain ⟨cur,hc⟩:=zD hown h3;exact ZC Hc3.out hc (by decide) rfl
    have hcb:=(hp.2.1.block b (lt_of_block Hc3.out) (fun e=>hob e.symm)).trans Hc3.out;have hlen:dn.length=8*q+0:=Hqr.out;have hro:Zu (ZP dn)++[Value.int .u8 0]=Zu (zBT dn):=by
     rw [zFw _ (by omega)];simp [Zu]
    have ho2:=hp.1;rw [hro] at ho2;obtain ⟨g2,hg2,hgf⟩:∃ g2,Value.slice (some ⟨g,0,none⟩) (q+1) cap=.slice (some ⟨g2,0,none⟩) (q+1) cap∧(ov2.ownBlock=some g2∨wr.heap.size≤g2):=by
     obtain ⟨g2,cap2,h1,h2⟩:=hp.2.2;simp only [Value.slice.injEq,Option.some.injEq,Addr.mk.injEq] at h1;obtain ⟨⟨rfl,-⟩,-,-⟩:=h1;exact ⟨_,rfl,h2⟩
    simp only [Value.slice.injEq,Option.some.injEq,Addr.mk.injEq] at hg2;obtain ⟨⟨rfl,-⟩,-,-⟩:=hg2;obtain ⟨cur,hgb⟩:=zD ho2 rfl;have hg:g≠b:=ZC hgb hcb (by decide);have hy:Zh dn q=0:=by
     unfold Zh;rw [zE,zE,zE,zE,zE,zE,zE,zE]<;>omega
    have c4:w2.cell? ⟨g,q,none⟩=some (.int .u8 0):=by
     rw [ho2.cellAt (g:=g) (j:=q) (by omega),←hro];rw [List.getElem?_append_right (by simp [Zu,zR];omega)];simp [Zu,zR,show q-(dn.length+7)/8=0 by omega]
    have z3:=ZB hgb q;have d1:w2.cell? ⟨b,1,none⟩=some (.int .i64 (8*(q:Int)+(0:Nat))):=by rw [zA hcb,hlen];simp
    have d2:w2.cell? ⟨b,0,none⟩=some ov2:=by rw [zA hcb];rfl
    have y1:=ZB hcb 0;have y2:=ZB hcb 1;have hmid:WrMid (w2.setCell ⟨b,0,none⟩ (.slice (some ⟨g,0,none⟩) (q+1) cap)) b g q 0 cap dn:=by
     refine ⟨hlen,by omega,⟨c3,?_⟩,?_,Hi.out.bit⟩
     ·rw [zB _ hcb,hlen];simp
     ·exact zF ho2 (fun k hk=>by
       simp [Value.ownBlock] at hk;subst hk;exact Below.heap_setCell _ _ _ _ hg)
    have hon:Only (b::ov2.ownBlock.toList) wr w2:=(Only.refl _ _).grown hp.2.1 (fun k hk=> .inl (by simp [hk]));have hgs:g∈b::ov2.ownBlock.toList∨wr.heap.size≤g:=hgf.elim (fun h=> .inl (by simp [h])) .inr;have Hmid:=zh hmid;have Hon:=zh hon;have Hy:=zh hy;have Hgf:=zh hgf;have Hgs:=zh hgs;clear hcb hp ho2 hro hob hmid hon hy hgb hgf hgs hown c2 z1 z2 c1 hlen;go_wp2
    go_region
    rw [show bits .or .u8 0 ((v:Int)*128)=0+(v:Int)*zAW 0 by obtain rfl|rfl:v=0∨v=1:=by omega
                                                             all_goals decide]
    go_wp2;have h1:=Hmid.out.done v 0 Hy.out (by omega);rw [Int.zero_add,show (8*(q:Int)+((0:Nat):Int)+1)=8*q+1 by simp] at h1;refine ⟨⟨k,dn++[(v:Int)],_,?_,by omega,hd2,by have:=Hll.out;rw [List.length_append,List.length_singleton];omega,h1,?_⟩,?_⟩
    ·rfl
    ·refine Ht.out.trans ⟨((((Hon.out.setCell (.inl (by simp)) _).setCell Hgs.out _).drew).setCell (.inl (by simp)) _),fun g' hg'=>?_⟩;simp [Value.ownBlock] at hg';subst hg';exact Hgf.out
    ·simp [intOf]
     try omega
   ·rw [show (8*q+r+7)/8=q+1 by omega] at hown;obtain ⟨g,cap,cur,rfl,_,hgb,hcell⟩:=zAi hown (by omega);have c4:wr.cell? ⟨g,q,none⟩=some (.int .u8 (Zh dn q)):=by
     rw [hcell _ (by omega)];simp [Zu,ZP,show q<(dn.length+7)/8 by have:=Hqr.out;omega]
    have z3:=ZB hgb q;have hy:=zBY dn Hi.out.bit q;generalize hyy:Zh dn q=y at*;obtain ⟨hy0,hy1⟩:=hy;have Hyy:=zh hyy;have hg:g≠b:=ZC hgb Hc3.out (by decide);clear hcell hyy hgb;go_wp2
    go_region
    have Hm:=zGA dn;rw [show dn.length/8=q by have:=Hqr.out;omega,Hyy.out,Hqr.out,zDM] at Hm;rw [zLu r y v hr hy0 hy1 Hm (by omega)];go_wp2;have hmid:WrMid wr b g q r cap dn:=by
     have hl:=Hqr.out;refine ⟨hl,hr,⟨c3,?_⟩,?_,Hi.out.bit⟩
     ·rw [Hc3.out,hl];simp
     ·rw [zFv _ (by omega)];exact hown
    refine ⟨⟨k,dn++[(v:Int)],_,?_,by omega,hd2,by have:=Hll.out;rw [List.length_append,List.length_singleton];omega,hmid.done v y Hyy.out (by omega),?_⟩,?_⟩
    ·rfl
    ·exact Ht.out.trans ⟨((((Only.refl _ _).setCell (.inl (by simp [Value.ownBlock])) _).drew).setCell (.inl (by simp)) _),fun g' hg'=> .inl hg'⟩
    ·simp [intOf]
     try omega
theorem zJG (b tb sb:Nat) (ov:Value) (e:Enc) (x:Int) (w:World) (he:EncIs w b tb sb ov e) (hg:e.Good) (hn:e.cost<700000000):
 Calls Tryz.prog 222 #[.pointer (some ⟨b,0,none⟩),.int .i64 x] w fun r w'=>r=.returned (.int .i64 (Zc (e.may x)))∧∃ ov',EncIs w' b tb sb ov' (e.bypass x)∧EncGo w w' b sb ov ov':=by
 have hmay:=zH4 b tb sb ov e x w he
 by_cases hm:e.may x=true
 ·have hby:e.bypass x=e.half x:=by unfold Enc.bypass;rw [if_pos hm]
  rw [hby,hm];rw [hm] at hmay;have hx:=(e.may_bit x hm).1;obtain ⟨-,-,c2,c3,c4,-,-,-,-⟩:=he.cellsAt;have z2:=ZB he.cells 2;have z4:=ZB he.cells 4;obtain ⟨m,hm1,hm2⟩:∃ m,x*e.wid=m∧(m=0∨m=e.wid):=by rcases hx with rfl|rfl<;>simp
  have hw0:=hg.wide;have hw1:=hg.ok.wid1;have hlo0:=hg.ok.low;have hlo1:=hg.ok.top;have hou:(e.outs:Int)≤900000000:=by unfold Enc.cost at hn;omega
  have hh:e.half x=(if 1024≤2*e.low+m then Enc.put { e with low:=2*e.low+m-1024 } 1 else if 2*e.low+m<512 then Enc.put { e with low:=2*e.low+m } 0 else { e with low:=2*e.low+m-512,outs:=e.outs+1 }):=by
   unfold Enc.half;dsimp only;rw [hm1]
  obtain ⟨lo,hlo⟩:∃ l,l=e.low:=⟨_,rfl⟩;obtain ⟨wi,hwi⟩:∃ l,l=e.wid:=⟨_,rfl⟩;rw [←hlo] at c2 hlo0 hlo1 hh;rw [←hwi] at c3 hw0 hw1 hlo1 hm1 hm2;have hwr:IntKind.i64.wrap (x*wi)=m:=by rw [hm1,IntKind.wrap_i64];omega
  have He:=zh he;have Hn:=zh hn;have Hg:=zh hg;have Hlo:=zh hlo;have Hwi:=zh hwi;have Hmay:=zh hmay;have Hm1:=zh hm1;have Hh:=zh hh;clear he hn hg hlo hwi hmay hm hby hh hm1
  go_enter Tryz.func222,Tryz.ntmps222
  go_wp2_with fail
  refine Hmay.out.mono ?_;rintro r0 w0 ⟨rfl,rfl⟩;rw [show Zc true=0 from rfl];go_wp2
  go_region
  have h1:EncIs (w.setCell ⟨b,2,none⟩ (.int .i64 (2*lo+m))).drew b tb sb ov { e with low:=2*lo+m }:=(He.out.put 2 (.int .i64 (2*lo+m)) { e with low:=2*lo+m } rfl rfl rfl).drew;have h2:EncTo w (w.setCell ⟨b,2,none⟩ (.int .i64 (2*lo+m))).drew b ov ov:=((EncTo.refl _ _ _).set _ _).drew;generalize (w.setCell ⟨b,2,none⟩ (.int .i64 (2*lo+m))).drew=wq at*;obtain ⟨-,-,d2,-,d4,-,-,-,-⟩:=h1.cellsAt;have d2':wq.cell? ⟨b,2,none⟩=some (.int .i64 (2*lo+m)):=d2;have d4':wq.cell? ⟨b,4,none⟩=some (.int .i64 e.outs):=d4;have y2:=ZB h1.cells 2;have y4:=ZB h1.cells 4;have H1:=zh h1;have H2:=zh h2;obtain ⟨l,hl⟩:∃ l,l=2*lo+m:=⟨_,rfl⟩;have hh:=Hh.out;rw [←hl] at d2' H1 hh;have hl0:0≤l:=by omega
  have hl1:l≤2048:=by omega
  have Hl:=zh hl;have hbits:=Hg.out.ok.bits;have Hbits:=zh hbits;clear d2 d4 h1 h2 c2 c3 c4 z2 z4 hl hm2 hwr hbits
  by_cases k1:1024≤l
  ·rw [if_pos k1] at hh;have Hh2:=zh hh;clear hh;have h0:EncIs (wq.setCell ⟨b,2,none⟩ (.int .i64 (l-1024))) b tb sb ov { e with low:=l-1024 }:=H1.out.put 2 _ _ rfl rfl rfl;have H0:=zh h0;clear h0
   go_wp2_with fail
   refine (zFD b tb sb ov _ 1 _ H0.out (.inr rfl) Hbits.out (by have:=Hn.out;unfold Enc.cost at*;dsimp only;omega)).mono ?_;rintro r w1 ⟨rfl,ov3,g1,g2⟩;have H5:=zh g1;rw [←Hh2.out] at H5;have H6:=zh (((H2.out.set 2 (.int .i64 (l-1024))).trans g2).go sb);clear g1 g2;go_wp2;go_ret;exact ⟨rfl,ov3,H5.out,H6.out⟩
  ·rw [if_neg k1] at hh
   by_cases k2:l<512
   ·rw [if_pos k2] at hh;have Hh2:=zh hh;clear hh
    go_wp2_with fail
    refine (zFD b tb sb ov _ 0 _ H1.out (.inl rfl) Hbits.out (by have:=Hn.out;unfold Enc.cost at*;dsimp only;omega)).mono ?_;rintro r w1 ⟨rfl,ov3,g1,g2⟩;have H5:=zh g1;rw [←Hh2.out] at H5;have H6:=zh ((H2.out.trans g2).go sb);clear g1 g2;go_wp2;go_ret;exact ⟨rfl,ov3,H5.out,H6.out⟩
   ·rw [if_neg k2] at hh;have Hh2:=zh hh;clear hh;have h0:EncIs ((wq.setCell ⟨b,2,none⟩ (.int .i64 (l-512))).setCell ⟨b,4,none⟩ (.int .i64 ((e.outs:Int)+1))) b tb sb ov { e with low:=l-512,outs:=e.outs+1 }:=
     EncIs.put (e:={ e with low:=l-512 }) (H1.out.put 2 _ _ rfl rfl rfl) 4 _ _ rfl rfl rfl
    have H5:=zh h0;rw [←Hh2.out] at H5;have H6:=zh (((H2.out.set 2 (.int .i64 (l-512))).set 4 (.int .i64 ((e.outs:Int)+1))).go sb);clear h0;go_wp2;go_ret;exact ⟨rfl,ov,H5.out,H6.out⟩
 ·have hby:e.bypass x=e:=by unfold Enc.bypass;rw [if_neg hm]
  rw [hby];rw [show e.may x=false by simpa using hm] at hmay ⊢;have He:=zh he;have Hmay:=zh hmay;clear he hby hmay hn hg hm
  go_enter Tryz.func222,Tryz.ntmps222
  go_wp2_with fail
  refine Hmay.out.mono ?_;rintro r0 w0 ⟨rfl,rfl⟩;rw [show Zc false=501 from rfl];go_wp2;go_ret;exact ⟨rfl,ov,He.out,EncGo.refl _ _ _ _⟩
theorem zLc (b tb sb:Nat) (ov:Value) (e:Enc) (x:Int) (w:World) (he:EncIs w b tb sb ov e) (hg:e.Good) (hn:e.cost<700000000):
 Calls Tryz.prog 38 #[.pointer (some ⟨b,0,none⟩),.int .i64 x] w fun r w'=>r=.returned (.int .i64 (Zc (e.may x)))∧∃ ov',EncIs w' b tb sb ov' (e.term x)∧EncGo w w' b sb ov ov':=by
 have hmay:=zH4 b tb sb ov e x w he
 by_cases hm:e.may x=true
 ·have hx:=(e.may_bit x hm).1;have hla:=e.ok_last x hg;have hno:=Enc.ok_norm 8 _ hla.1 hla.2.2;obtain ⟨-,-,c2,c3,-,-,-,-,-⟩:=he.cellsAt;have z2:=ZB he.cells 2;have z3:=ZB he.cells 3;have hw0:=hg.wide;have hw1:=hg.ok.wid1;have hlo0:=hg.ok.low;have hlo1:=hg.ok.top;have He:=zh he;have Hn:=zh hn;have Hla:=zh hla;have Hno:=zh hno
  rcases hx with rfl|rfl
  ·have hby:e.term 0=Enc.norm 8 (e.last 0):=by unfold Enc.term;rw [if_pos hm];rfl
   rw [hby,hm];rw [hm] at hmay;have Hmay:=zh hmay;clear he hn hg hmay hm hby hla hno
   go_enter Tryz.func38,Tryz.ntmps38
   go_wp2_with fail
   refine Hmay.out.mono ?_;rintro r0 w0 ⟨rfl,rfl⟩;rw [show Zc true=0 from rfl];have h1:EncIs (w.setCell ⟨b,3,none⟩ (.int .i64 (e.wid-2))) b tb sb ov (e.last 0):=He.out.put 3 _ _ rfl rfl rfl;have h2:EncTo w (w.setCell ⟨b,3,none⟩ (.int .i64 (e.wid-2))) b ov ov:=(EncTo.refl _ _ _).set _ _;have H1:=zh h1;have H2:=zh h2;clear h1 h2
   go_wp2_with fail
   refine (zCi b tb sb ov _ _ H1.out Hla.out.1 (by rw [Hla.out.2.1];have:=Hn.out;omega) Hla.out.2.2).mono ?_;rintro r3 w3 ⟨rfl,ov3,g1,g2⟩;have H5:=zh g1;have H6:=zh ((H2.out.trans g2).go sb);clear g1 g2;go_wp2;go_ret;exact ⟨rfl,ov3,H5.out,H6.out⟩
  ·have hby:e.term 1=(Enc.norm 8 (e.last 1)).close:=by unfold Enc.term;rw [if_pos hm];rfl
   rw [hby,hm];rw [hm] at hmay;have Hmay:=zh hmay;clear he hn hg hmay hm hby hla hno
   go_enter Tryz.func38,Tryz.ntmps38
   go_wp2_with fail
   refine Hmay.out.mono ?_;rintro r0 w0 ⟨rfl,rfl⟩;rw [show Zc true=0 from rfl];go_wp2
   go_region
   have h1:EncIs ((((w.setCell ⟨b,3,none⟩ (.int .i64 (e.wid-2))).setCell ⟨b,2,none⟩ (.int .i64 (e.low+(e.wid-2)))).setCell ⟨b,3,none⟩ (.int .i64 2)).drew) b tb sb ov (e.last 1):=by
    have g1:EncIs (w.setCell ⟨b,3,none⟩ (.int .i64 (e.wid-2))) b tb sb ov { e with wid:=e.wid-2 }:=He.out.put 3 _ _ rfl rfl rfl;have g2:EncIs ((w.setCell ⟨b,3,none⟩ (.int .i64 (e.wid-2))).setCell ⟨b,2,none⟩ (.int .i64 (e.low+(e.wid-2)))) b tb sb ov { e with low:=e.low+(e.wid-2),wid:=e.wid-2 }:=g1.put 2 (.int .i64 (e.low+(e.wid-2))) { e with low:=e.low+(e.wid-2),wid:=e.wid-2 } rfl rfl rfl;exact (g2.put 3 (.int .i64 2) (e.last 1) rfl rfl rfl).drew
   have h2:EncTo w ((((w.setCell ⟨b,3,none⟩ (.int .i64 (e.wid-2))).setCell ⟨b,2,none⟩ (.int .i64 (e.low+(e.wid-2)))).setCell ⟨b,3,none⟩ (.int .i64 2)).drew) b ov ov:=((((EncTo.refl _ _ _).set _ _).set _ _).set _ _).drew;have H1:=zh h1;have H2:=zh h2;clear h1 h2
   go_wp2_with fail
   refine (zCi b tb sb ov _ _ H1.out Hla.out.1 (by rw [Hla.out.2.1];have:=Hn.out;omega) Hla.out.2.2).mono ?_;rintro r3 w3 ⟨rfl,ov3,g1,g2⟩;have ht:=H2.out.trans g2;have hfc:(Enc.norm 8 (e.last 1)).cost<800000000:=by have:=Hno.out.2.2;rw [Hla.out.2.1] at this;have:=Hn.out;omega
   have hfo:=Hno.out.1;clear g2 H1 H2 Hno Hla;obtain ⟨f,hf⟩:∃ f,f=Enc.norm 8 (e.last 1):=⟨_,rfl⟩;rw [←hf] at g1 hfc hfo;have Hf:=zh hf;have hlen:f.bits.length≤f.cost:=by unfold Enc.cost;omega
   obtain ⟨-,-,d2,-,-,-,-,-,-⟩:=g1.cellsAt;have hf0:=hfo.low;have hf1:=hfo.top;have hf2:=hfo.wid0;have H1:=zh g1;have Ht:=zh ht;have Hfc:=zh hfc;have Hfo:=zh hfo;have Hlen:=zh hlen;obtain ⟨p1,hp1,hp1b⟩:∃ p:Int,f.low/512%2=p∧(p=0∨p=1):=⟨_,rfl,by omega⟩;obtain ⟨p2,hp2,hp2b⟩:∃ p:Int,f.low/256%2=p∧(p=0∨p=1):=⟨_,rfl,by omega⟩;clear g1 ht hfc hfo c2 c3 z2 z3 hlen hf
   go_wp2_with fail
   refine (zFD b tb sb ov3 f p1 _ H1.out hp1b Hfo.out.bits (by have:=Hfc.out;omega)).mono ?_;rintro r4 w4 ⟨rfl,ov4,g1,g2⟩;obtain ⟨-,-,d3,-,-,-,-,-,-⟩:=g1.cellsAt;have d3':w4.cell? ⟨b,2,none⟩=some (.int .i64 f.low):=d3;have hb4:=(Enc.ok_put f p1 hp1b Hfo.out).bits;have hl4:(f.put p1).bits.length≤(f.put p1).cost:=by unfold Enc.cost;omega
   have hc4:=f.cost_put p1;have G1:=zh g1;have G2:=zh g2;have Hb4:=zh hb4;have Hl4:=zh (show (f.put p1).bits.length<900000000 by have:=Hfc.out;omega);clear g1 g2 d2 d3 hb4 hl4 hc4
   go_wp2_with fail
   refine (zGk b tb sb ov4 (f.put p1) p2 _ G1.out hp2b Hb4.out (by have:=Hl4.out;omega)).mono ?_;rintro r5 w5 ⟨rfl,ov5,g1,g2,g3⟩;have hb5:∀ y∈((f.put p1).bit p2).bits,y=0∨y=1:=(Enc.ok_bit _ p2 hp2b (Enc.ok_put f p1 hp1b Hfo.out)).bits;have G3:=zh g1;have G4:=zh (show EncTo w4 w5 b ov4 ov5 from ⟨g2,g3⟩);have Hb5:=zh hb5;clear g1 g2 g3 hb5
   go_wp2_with fail
   refine (zGk b tb sb ov5 ((f.put p1).bit p2) 1 _ G3.out (.inr rfl) Hb5.out (by have:=Hl4.out;simp only [Enc.bit,List.length_append,List.length_singleton];omega)).mono ?_;rintro r6 w6 ⟨rfl,ov6,g1,g2,g3⟩;have z6:=ZB g1.cells 6;have d6:=g1.cellsAt.2.2.2.2.2.2.1;have d6':w6.cell? ⟨b,6,none⟩=some (.bool f.over):=d6;have h7:EncIs (w6.setCell ⟨b,6,none⟩ (.bool true)) b tb sb ov6 f.close:=by
    have:=g1.put 6 (.bool true) { ((f.put p1).bit p2).bit 1 with over:=true } rfl rfl rfl;unfold Enc.close;rw [hp1,hp2];exact this
   rw [Hf.out] at h7;have h8:EncTo w (w6.setCell ⟨b,6,none⟩ (.bool true)) b ov ov6:=((Ht.out.trans G2.out).trans G4.out).trans (EncTo.set ⟨g2,g3⟩ _ _);have H7:=zh h7;have H8:=zh (h8.go sb);clear g1 g2 g3 h7 h8 d6;go_wp2;go_ret;exact ⟨rfl,ov6,H7.out,H8.out⟩
 ·have hby:e.term x=e:=by unfold Enc.term;rw [if_neg hm]
  rw [hby];rw [show e.may x=false by simpa using hm] at hmay ⊢;have He:=zh he;have Hmay:=zh hmay;clear he hby hmay hn hg hm
  go_enter Tryz.func38,Tryz.ntmps38
  go_wp2_with fail
  refine Hmay.out.mono ?_;rintro r0 w0 ⟨rfl,rfl⟩;rw [show Zc false=501 from rfl];go_wp2;go_ret;exact ⟨rfl,ov,He.out,EncGo.refl _ _ _ _⟩
theorem zHN (b tb sb:Nat) (ov:Value) (e:Enc) (w:World) (he:EncIs w b tb sb ov e):
 Calls Tryz.prog 44 #[.pointer (some ⟨b,0,none⟩)] w fun r w'=>r=.returned (.string (strOfNums (ZP e.bits)))∧w=w':=by
 obtain ⟨-,-,-,-,-,-,-,c7,-⟩:=he.cellsAt;have hcv:=zBS (dst:=9) Tryz.underlying49 Tryz.underlying5 Tryz.underlying9 he.out;have He:=zh he;clear he
 go_enter Tryz.func44,Tryz.ntmps44
 go_wp2;go_ret;exact ⟨rfl,rfl⟩
theorem zMx (v:Value) (xs:List Int) (w:World) (hv:IntSlice w v xs) (hl:xs.length≤17592186044414) (ha:Asc w):
 Calls Tryz.prog 35 #[v] w fun r w'=>∃ b tb sb,r=.returned (.pointer (some ⟨b,0,none⟩))∧EncIs w' b tb sb (.slice none 0 0) (Enc.new xs)∧Only [] w w'∧w.heap.size≤b∧w.heap.size≤tb∧w.heap.size≤sb:=by
 have Ha:=zh ha;have Hv:=zh hv
 go_enter Tryz.func35,Tryz.ntmps35
 go_wp2_with fail
 refine (zFG w ha).mono ?_;rintro r1 w1 ⟨rfl,ht,ho⟩;have Ht:=zh ht;have Ho:=zh ho;clear ht
 go_wp2_with fail
 refine (zHO v xs w1 (hv.only ho (by simp)) hl).mono ?_;rintro r2 w2 ⟨sb,rfl,hsb,hst,ho2⟩;have htb:=Ht.out.only ho2 (by simp);have Htb:=zh htb;have Hst:=zh hst;have Ho2:=zh (ho.trans ho2);have Hsb:=zh hsb;clear htb hst ho ho2 hsb;go_wp2;go_ret;refine ⟨w2.heap.size,w.heap.size,sb,rfl,⟨?_,ZE _ Htb.out,ZE _ Hst.out,?_⟩,Ho2.out.alloc _,Ho2.out.size,Nat.le_refl _,Nat.le_trans Ho.out.size Hsb.out⟩
 rotate_left
 ·have h0:ZP (Enc.new xs).bits=[]:=show ZP []=[] by decide
  rw [h0];exact World.ownsRow_nil _ _ _ _
 rw [ZA];have hbl:(Enc.new xs).st.length=xs.length:=zBl xs;rw [hbl]
 rfl
end Go.Proofs.YtcppbdlmcbjmeaaGreatDoor
