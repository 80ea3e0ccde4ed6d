/- Lemmas that the law needs, part 36. -/
import Derived.Test.YtcppbdlmcbjmeaaGreatDoorK35
set_option maxHeartbeats 3200000
set_option maxRecDepth 100000
namespace Go.Proofs.YtcppbdlmcbjmeaaGreatDoor
open Go.RowKit
def zCk (m:Bool) (b:Nat):Array Value:=if m then #[.pointer (some ⟨b,0,none⟩),.pointer none] else #[.pointer none,.pointer (some ⟨b,0,none⟩)]
structure Coding (w0 wP w:World) (m:Bool) (ck b tb sb:Nat) (ovP:Value) (eEnd:Enc) (dEnd:Dec) (os:List Deed):Prop where
 cell:w.heap[ck]? =some (.cells (zCk m b) 321 (0,0))
 base:w0.heap.size≤wP.heap.size
 lck:wP.heap.size≤ck
 lsb:sb<wP.heap.size
 run:(m=true∧∃ ov e,EncAt w0 w b tb sb ov e∧EncGo wP w b sb ovP ov∧e.Live∧e.st.length=256∧e.cost+8*os.length<500000000∧(∀ o∈os,o.fits 256)∧e.run os=eEnd)∨
  (m=false∧∃ d,DecAt w0 w b tb sb d∧Only [b,sb] wP w∧d.s.size≤140737488355328∧d.gives os dEnd)
theorem Coding.past {w0 wP w w':World} {m:Bool} {ck b tb sb:Nat} {ovP:Value} {eEnd:Enc} {dEnd:Dec} {os:List Deed} {S:List Nat} (h:Coding w0 wP w m ck b tb sb ovP eEnd dEnd os) (ho:Only S w w')
 (hS:∀ i∈S,wP.heap.size≤i∧∃ cs,w.heap[i]? =some (.cells cs 3 (0,0))):Coding w0 wP w' m ck b tb sb ovP eEnd dEnd os:=by
 have hk:ck∉S:=fun hi=>by obtain ⟨_,c,hc⟩:=hS ck hi;exact ZC hc h.cell (by decide) rfl
 have hs:sb∉S:=fun hi=>by have:=(hS sb hi).1;have:=h.lsb;omega
 have hb:=h.base;refine ⟨ho.heap h.cell hk,h.base,h.lck,h.lsb,?_⟩
 rcases h.run with ⟨hm,ov,e,h1,h2,h3⟩|⟨hm,d,h1,h2,h3⟩
 ·refine .inl ⟨hm,ov,e,h1.only ho (fun i hi=>by have:=(hS i hi).1;omega) ?_ ?_ hs ?_,⟨h2.only.trans' ho (fun i hi=> .inr (hS i hi).1),h2.new⟩,h3⟩
  ·exact fun hi=>by obtain ⟨_,c,hc⟩:=hS b hi;exact ZC hc h1.is.cells (by decide) rfl
  ·exact fun hi=>by obtain ⟨_,c,hc⟩:=hS tb hi;exact ZC hc h1.is.tab (by decide) rfl
  ·exact fun g hg hi=>by
    obtain ⟨_,c,hc⟩:=hS g hi;obtain ⟨c2,hc2⟩:=zD h1.is.out hg;exact ZC hc hc2 (by decide) rfl
 ·refine .inr ⟨hm,d,h1.only ho (fun i hi=>by have:=(hS i hi).1;omega) ?_ ?_ hs,h2.trans' ho (fun i hi=> .inr (hS i hi).1),h3⟩
  ·exact fun hi=>by obtain ⟨_,c,hc⟩:=hS b hi;exact ZC hc h1.is.cells (by decide) rfl
  ·exact fun hi=>by obtain ⟨_,c,hc⟩:=hS tb hi;exact ZC hc h1.is.tab (by decide) rfl
theorem Coding.pastE {w0 wP w w':World} {m:Bool} {ck b tb sb k:Nat} {ovP:Value} {eEnd:Enc} {dEnd:Dec} {os:List Deed} {cs:Array Value} (h:Coding w0 wP w m ck b tb sb ovP eEnd dEnd os) (ho:Only [k] w w')
 (hk:wP.heap.size≤k) (hc:w.heap[k]? =some (.cells cs 32 (0,0))):Coding w0 wP w' m ck b tb sb ovP eEnd dEnd os:=by
 have hb:=h.base;have n0:ck∉[k]:=by simp only [List.mem_singleton];exact Ne.symm (ZC hc h.cell (by decide))
 refine ⟨ho.heap h.cell n0,h.base,h.lck,h.lsb,?_⟩
 rcases h.run with ⟨hm,ov,e,h1,h2,h3⟩|⟨hm,d,h1,h2,h3⟩
 ·refine .inl ⟨hm,ov,e,h1.only ho (fun i hi=>by simp at hi;omega) ?_ ?_ ?_ ?_,⟨h2.only.trans' ho (fun i hi=>by simp at hi;omega),h2.new⟩,h3⟩
  ·simp only [List.mem_singleton];exact Ne.symm (ZC hc h1.is.cells (by decide))
  ·simp only [List.mem_singleton];exact Ne.symm (ZC hc h1.is.tab (by decide))
  ·simp only [List.mem_singleton];exact Ne.symm (ZC hc h1.is.sts (by decide))
  ·intro g hg;obtain ⟨c2,hc2⟩:=zD h1.is.out hg;simp only [List.mem_singleton];exact Ne.symm (ZC hc hc2 (by decide))
 ·refine .inr ⟨hm,d,h1.only ho (fun i hi=>by simp at hi;omega) ?_ ?_ ?_,h2.trans' ho (fun i hi=>by simp at hi;omega),h3⟩
  ·simp only [List.mem_singleton];exact Ne.symm (ZC hc h1.is.cells (by decide))
  ·simp only [List.mem_singleton];exact Ne.symm (ZC hc h1.is.tab (by decide))
  ·simp only [List.mem_singleton];exact Ne.symm (ZC hc h1.is.sts (by decide))
theorem Coding.only {w0 wP w w':World} {m:Bool} {ck b tb sb:Nat} {ovP:Value} {eEnd:Enc} {dEnd:Dec} {os:List Deed} (h:Coding w0 wP w m ck b tb sb ovP eEnd dEnd os) (ho:Only [] w w'):Coding w0 wP w' m ck b tb sb ovP eEnd dEnd os:=
 h.past ho (by simp)
theorem Coding.drew {w0 wP w:World} {m:Bool} {ck b tb sb:Nat} {ovP:Value} {eEnd:Enc} {dEnd:Dec} {os:List Deed} (h:Coding w0 wP w m ck b tb sb ovP eEnd dEnd os):Coding w0 wP w.drew m ck b tb sb ovP eEnd dEnd os:=h.only (Only.refl [] w).drew
theorem Coding.drewN {w0 wP w:World} {m:Bool} {ck b tb sb:Nat} {ovP:Value} {eEnd:Enc} {dEnd:Dec} {os:List Deed} (h:Coding w0 wP w m ck b tb sb ovP eEnd dEnd os) (n:Nat):Coding w0 wP (w.drewN n) m ck b tb sb ovP eEnd dEnd os:=h.only ((Only.refl [] w).drewN n)
def zMD (w w':World):Prop:=∀ (k:Nat) (cs:Array Value),w.heap[k]? =some (Obj.cells cs 32 (0,0))→w'.heap[k]? =some (Obj.cells cs 32 (0,0))
def Spare (sb:Nat) (w w':World):Prop:=w.heap.size≤w'.heap.size∧(∀ (k:Nat) (cs:Array Value),w.heap[k]? =some (Obj.cells cs 3 (0,0))→k≠sb→w'.heap[k]? =some (Obj.cells cs 3 (0,0)))∧zMD w w'
theorem Spare.trans {sb:Nat} {a b c:World} (h:Spare sb a b) (k:Spare sb b c):Spare sb a c:=
 ⟨Nat.le_trans h.1 k.1,fun i cs hi hs=>k.2.1 i cs (h.2.1 i cs hi hs) hs,fun i cs hi=>k.2.2 i cs (h.2.2 i cs hi)⟩
theorem Spare.row {sb B n:Nat} {w w':World} {v:Value} {xs:List Value} (h:Spare sb w w') (ho:w.ownsRow B 3 1 v n xs) (hB:sb<B):w'.ownsRow B 3 1 v n xs:=by
 refine zF ho fun g hg=>?_
 obtain ⟨c,hc⟩:=zD ho hg;have hb:B≤g:=by
  rcases ho.2 with ⟨rfl,_⟩|⟨g',cap,cur,rfl,hb,_⟩
  ·simp [Value.ownBlock] at hg
  ·simp [Value.ownBlock] at hg;subst hg;exact hb
 rw [hc];exact h.2.1 g c hc (by omega)
theorem Spare.of_enc {w0 w w':World} {b tb sb:Nat} {ov ov':Value} {e:Enc} (h:EncAt w0 w b tb sb ov e) (hg:EncGo w w' b sb ov ov'):Spare sb w w':=by
 refine ⟨hg.only.size,fun k cs hk hs=>hg.only.heap hk ?_,fun k cs hk=>hg.only.heap hk ?_⟩
 ·simp only [List.mem_cons,Option.mem_toList,not_or];exact ⟨ZC hk h.is.cells (by decide),hs,fun hi=>by obtain ⟨c,hc⟩:=zD h.is.out hi;exact ZC hk hc (by decide) rfl⟩
 ·simp only [List.mem_cons,Option.mem_toList,not_or];exact ⟨ZC hk h.is.cells (by decide),ZC hk h.is.sts (by decide),fun hi=>by obtain ⟨c,hc⟩:=zD h.is.out hi;exact ZC hk hc (by decide) rfl⟩
theorem Spare.of_dec {w0 w w':World} {b tb sb:Nat} {d:Dec} (h:DecAt w0 w b tb sb d) (hg:Only [b,sb] w w'):Spare sb w w':=by
 refine ⟨hg.size,fun k cs hk hs=>hg.heap hk ?_,fun k cs hk=>hg.heap hk ?_⟩
 ·simp only [List.mem_cons,List.not_mem_nil,or_false,not_or];exact ⟨ZC hk h.is.cells (by decide),hs⟩
 ·simp only [List.mem_cons,List.not_mem_nil,or_false,not_or];exact ⟨ZC hk h.is.cells (by decide),ZC hk h.is.sts (by decide)⟩
theorem Enc.run_gone (e:Enc) (a b:List Deed) (h:e.Live) (hst:e.st.length=256) (hf:∀ o∈a++b,o.fits 256) (hc:e.cost+8*(a++b).length<500000000):
 (e.run a).Live∧(e.run a).st.length=256∧(e.run a).cost+8*b.length<500000000∧(e.run a).run b=e.run (a++b):=by
 have h1:=e.live_run a h (fun o ho=>by rw [hst];exact hf o (by simp [ho]));rw [List.length_append] at hc;exact ⟨h1.1,h1.2.1.trans hst,by have:=h1.2.2;omega,by rw [Enc.run_append]⟩
theorem zAZ (x:Bool) (w:World):Calls Tryz.prog 241 #[.bool x] w fun r w'=>r=.returned (.int .i64 (Zi x))∧w=w':=by
 go_enter Tryz.func241,Tryz.ntmps241
 cases x
 ·go_wp2;go_ret;exact ⟨rfl,rfl⟩
 ·go_wp2;go_ret;exact ⟨rfl,rfl⟩
theorem zAP {w0 wP w:World} {m:Bool} {ck b tb sb:Nat} {ovP:Value} {eEnd:Enc} {dEnd:Dec} {os:List Deed} (el inc v u:Int) (h:Coding w0 wP w m ck b tb sb ovP eEnd dEnd (ZV el inc v 1++os)) (hb:zAx el v 1=0) (i0:0≤inc) (i1:inc≤7) (hu:m=true→u=v):
 Calls Tryz.prog 240 #[.pointer (some ⟨ck,0,none⟩),.int .i64 el,.int .i64 inc,.int .i64 u] w fun r w'=>r=.returned (.int .i64 v)∧Coding w0 wP w' m ck b tb sb ovP eEnd dEnd os∧Spare sb w w':=by
 rcases h.run with ⟨rfl,ov,e,h1,h2,h3,h4,h5,h6,h7⟩|⟨rfl,d,h1,h2,h3,h4⟩
 ·obtain rfl:u=v:=hu rfl;have c0:w.cell? ⟨ck,0,none⟩=some (.pointer (some ⟨b,0,none⟩)):=by rw [zA h.cell];rfl
  obtain ⟨l1,l2,l3,l4⟩:=e.run_gone _ _ h3 h4 h6 h5;have hel:e.elem el inc u 1=(0,e.run (ZV el inc u 1)):=by rw [e.elem_live _ _ _ _ h3 h4,if_pos ⟨hb,i0,i1⟩]
  have hcost:e.cost<600000000:=by omega
  have Hn:=zh hcost;have H:=zh h;have H1:=zh h1;have H2:=zh h2;have H6:=zh h6;have Hel:=zh hel;have Hl:=zh (show (e.run (ZV el inc u 1)).run os=eEnd from l4.trans h7);have L1:=zh l1;have L2:=zh l2;have L3:=zh l3;clear h h1 h2 h3 h4 h5 h6 h7 hel hcost l1 l2 l3 l4 hu
  go_enter Tryz.func240,Tryz.ntmps240
  go_wp2_with fail
  refine (zIg H1.out Hn.out el inc u 1).mono ?_;rintro r w1 ⟨rfl,ov1,g1,g2⟩;rw [Hel.out] at g1 ⊢;have hck:ck∉b::sb::ov.ownBlock.toList:=by
   simp only [List.mem_cons,Option.mem_toList,not_or];exact ⟨ZC H.out.cell H1.out.is.cells (by decide),ZC H.out.cell H1.out.is.sts (by decide),fun hi=>by obtain ⟨c,hc⟩:=zD H1.out.is.out hi;exact ZC H.out.cell hc (by decide) rfl⟩
  have K:=zh (show Coding w0 wP w1 true ck b tb sb ovP eEnd dEnd os from
   ⟨g2.only.heap H.out.cell hck,H.out.base,H.out.lck,H.out.lsb,.inl ⟨rfl,ov1,_,g1,H2.out.trans g2,L1.out,L2.out,L3.out,fun o ho=>H6.out o (by simp [ho]),Hl.out⟩⟩)
  have Sp:=zh (Spare.of_enc H1.out g2);clear g1 g2 hck;go_wp2;go_ret;exact ⟨rfl,K.out,Sp.out⟩
 ·have c0:w.cell? ⟨ck,0,none⟩=some (.pointer none):=by rw [zA h.cell];rfl
  have c1:w.cell? ⟨ck,1,none⟩=some (.pointer (some ⟨b,0,none⟩)):=by rw [zA h.cell];rfl
  obtain ⟨d1,q1,q2⟩:=Dec.gives_append _ _ d dEnd h4;have hds:d1.s.size≤140737488355328:=by rw [Dec.gives_s _ d d1 q1];exact h3
  have H:=zh h;have H1:=zh h1;have H2:=zh h2;have Q1:=zh q1;have Q2:=zh q2;have Hds:=zh hds;clear h h1 h2 h4 q1 q2 hds hu
  go_enter Tryz.func240,Tryz.ntmps240
  go_wp2_with fail
  refine (zIh H1.out el inc v 1 hb i0 i1 Q1.out h3).mono ?_;rintro r w1 ⟨rfl,g1,g2⟩;have hck:ck∉[b,sb]:=by
   simp only [List.mem_cons,List.not_mem_nil,or_false,not_or];exact ⟨ZC H.out.cell H1.out.is.cells (by decide),ZC H.out.cell H1.out.is.sts (by decide)⟩
  have K:=zh (show Coding w0 wP w1 false ck b tb sb ovP eEnd dEnd os from
   ⟨g2.heap H.out.cell hck,H.out.base,H.out.lck,H.out.lsb,.inr ⟨rfl,d1,g1,H2.out.trans g2,Hds.out,Q2.out⟩⟩)
  have Sp:=zh (Spare.of_dec H1.out g2);clear g1 g2 hck;go_wp2;go_ret;exact ⟨rfl,K.out,Sp.out⟩
theorem zEZ {w0 wP w:World} {m:Bool} {ck b tb sb:Nat} {ovP:Value} {eEnd:Enc} {dEnd:Dec} {os:List Deed} (v u:Int) (h:Coding w0 wP w m ck b tb sb ovP eEnd dEnd (.byp v::os)) (hv:v=0∨v=1) (hu:m=true→u=v):
 Calls Tryz.prog 243 #[.pointer (some ⟨ck,0,none⟩),.int .i64 u] w fun r w'=>r=.returned (.int .i64 v)∧Coding w0 wP w' m ck b tb sb ovP eEnd dEnd os∧Spare sb w w':=by
 rcases h.run with ⟨rfl,ov,e,h1,h2,h3,h4,h5,h6,h7⟩|⟨rfl,d,h1,h2,h3,h4⟩
 ·obtain rfl:u=v:=hu rfl;have c0:w.cell? ⟨ck,0,none⟩=some (.pointer (some ⟨b,0,none⟩)):=by rw [zA h.cell];rfl
  obtain ⟨l1,l2,l3,l4⟩:=e.run_gone [.byp u] os h3 h4 h6 h5;have hmay:e.may u=true:=by unfold Enc.may;rw [h3.going];simp;omega
  have hcost:e.cost<700000000:=by omega
  have Hn:=zh hcost;have H:=zh h;have H1:=zh h1;have H2:=zh h2;have H6:=zh h6;have Hm:=zh hmay;have Hl:=zh (show (e.bypass u).run os=eEnd from l4.trans h7);have L1:=zh (show (e.bypass u).Live from l1);have L2:=zh (show (e.bypass u).st.length=256 from l2);have L3:=zh (show (e.bypass u).cost+8*os.length<500000000 from l3);clear h h1 h2 h3 h4 h5 h6 h7 hmay hcost l1 l2 l3 l4 hu
  go_enter Tryz.func243,Tryz.ntmps243
  go_wp2_with fail
  refine (H1.out.bypass u Hn.out).mono ?_;rintro r w1 ⟨rfl,ov1,g1,g2⟩;rw [Hm.out,show Zc true=0 from rfl];have hck:ck∉b::sb::ov.ownBlock.toList:=by
   simp only [List.mem_cons,Option.mem_toList,not_or];exact ⟨ZC H.out.cell H1.out.is.cells (by decide),ZC H.out.cell H1.out.is.sts (by decide),fun hi=>by obtain ⟨c,hc⟩:=zD H1.out.is.out hi;exact ZC H.out.cell hc (by decide) rfl⟩
  have K:=zh (show Coding w0 wP w1 true ck b tb sb ovP eEnd dEnd os from
   ⟨g2.only.heap H.out.cell hck,H.out.base,H.out.lck,H.out.lsb,.inl ⟨rfl,ov1,_,g1,H2.out.trans g2,L1.out,L2.out,L3.out,fun o ho=>H6.out o (by simp [ho]),Hl.out⟩⟩)
  have Sp:=zh (Spare.of_enc H1.out g2);clear g1 g2 hck;go_wp2;go_ret;exact ⟨rfl,K.out,Sp.out⟩
 ·have c0:w.cell? ⟨ck,0,none⟩=some (.pointer none):=by rw [zA h.cell];rfl
  have c1:w.cell? ⟨ck,1,none⟩=some (.pointer (some ⟨b,0,none⟩)):=by rw [zA h.cell];rfl
  obtain ⟨d1,q1,q2,q3⟩:=h4;have hds:d1.s.size≤140737488355328:=by rw [q2];exact h3
  have H:=zh h;have H1:=zh h1;have H2:=zh h2;have Q1:=zh (show d.bypass=(v,0,d1) from q1);have Q2:=zh q3;have Hds:=zh hds;clear h h1 h2 q1 q2 q3 hds hu
  go_enter Tryz.func243,Tryz.ntmps243
  go_wp2_with fail
  refine (H1.out.bypass h3).mono ?_;rintro r w1 ⟨rfl,g1,g2⟩;rw [Q1.out] at g1 ⊢;have hck:ck∉[b,sb]:=by
   simp only [List.mem_cons,List.not_mem_nil,or_false,not_or];exact ⟨ZC H.out.cell H1.out.is.cells (by decide),ZC H.out.cell H1.out.is.sts (by decide)⟩
  have K:=zh (show Coding w0 wP w1 false ck b tb sb ovP eEnd dEnd os from
   ⟨g2.heap H.out.cell hck,H.out.base,H.out.lck,H.out.lsb,.inr ⟨rfl,d1,g1,H2.out.trans g2,Hds.out,Q2.out⟩⟩)
  have Sp:=zh (Spare.of_dec H1.out g2);clear g1 g2 hck;go_wp2;go_ret;exact ⟨rfl,K.out,Sp.out⟩
def MemAt (w:World) (mb n:Nat) (mem:List Int):Prop:=∃ cur,w.heap[mb]? =some (.cells cur 3 (0,0))∧∀ i,i<n→cur[i]? =some (.int .i64 (mem.getD i 0))
theorem MemAt.cell {w:World} {mb n:Nat} {mem:List Int} (h:MemAt w mb n mem) (i:Nat) (hi:i<n):w.cell? ⟨mb,i,none⟩=some (.int .i64 (mem.getD i 0)):=by
 obtain ⟨cur,h1,h2⟩:=h;rw [zA h1];exact h2 i hi
theorem MemAt.free {w:World} {mb n:Nat} {mem:List Int} (h:MemAt w mb n mem) (i:Nat):w.frozen? ⟨mb,i,none⟩=false:=by
 obtain ⟨cur,h1,h2⟩:=h;exact ZB h1 i
theorem MemAt.spare {w w':World} {mb n sb:Nat} {mem:List Int} (h:MemAt w mb n mem) (hs:Spare sb w w') (hne:mb≠sb):MemAt w' mb n mem:=by
 obtain ⟨cur,h1,h2⟩:=h;exact ⟨cur,hs.2.1 mb cur h1 hne,h2⟩
theorem MemAt.only {w w':World} {mb n:Nat} {mem:List Int} {S:List Nat} (h:MemAt w mb n mem) (ho:Only S w w') (hne:mb∉S):MemAt w' mb n mem:=by
 obtain ⟨cur,h1,h2⟩:=h;exact ⟨cur,ho.heap h1 hne,h2⟩
theorem Spare.of_only {w w':World} {sb:Nat} (h:Only [] w w'):Spare sb w w':=⟨h.size,fun _ _ hk _=>h.heap hk (by simp),fun _ _ hk=>h.heap hk (by simp)⟩
theorem zBG {w w':World} {B n:Nat} {v v':Value} {xs ys:List Value} (hp:Pushed w B 3 1 v n ys v' w') (ho:w.ownsRow B 3 1 v (n-1) xs):Only v.ownBlock.toList w w'∧∀ g,v.ownBlock=some g→B≤g∧∃ cs,w.heap[g]? =some (.cells cs 3 (0,0)):=by
 refine ⟨(Only.refl _ w).grown hp.2.1 (fun k hk=> .inl (by simp [hk])),fun g hg=>?_⟩;obtain ⟨c,hc⟩:=zD ho hg;refine ⟨?_,c,hc⟩
 rcases ho.2 with ⟨rfl,_⟩|⟨g',cap,cur,rfl,hb,_⟩
 ·simp [Value.ownBlock] at hg
 ·simp [Value.ownBlock] at hg;subst hg;exact hb
theorem zIw {w0 wP w:World} {m:Bool} {ck b tb sb:Nat} {ovP:Value} {eEnd:Enc} {dEnd:Dec} {os:List Deed} (cs mem:List Int) (mb n cap:Nat) (h:Coding w0 wP w m ck b tb sb ovP eEnd dEnd (zj cs (zU cs) 0 (n-1)++os))
 (hmem:MemAt w mb n mem) (hP:wP.heap.size≤mb) (hm:m=true→∀ i,i<n→mem.getD i 0=cs.getD i 0) (hlm:m=true→zAC mem n=zU cs) (hn:cs.length=n) (hn1:1≤n) (hn2:n≤16) (hl:0≤zU cs):
 Calls Tryz.prog 242 #[.pointer (some ⟨ck,0,none⟩),.slice (some ⟨mb,0,none⟩) n cap] w fun r w'=>∃ v,r=.returned v∧
  w'.ownsRow w.heap.size 3 1 v (zW cs (zU cs) 0 (n-1)).length ((zW cs (zU cs) 0 (n-1)).map fun (p:Nat)=>Value.int .i64 (p:Int))∧Coding w0 wP w' m ck b tb sb ovP eEnd dEnd os∧Spare sb w w':=by
 have hsb:sb<mb:=by have:=h.lsb;omega
 have hPw:wP.heap.size≤w.heap.size:=by
  rcases h.run with ⟨-,ov,e,-,h2,-⟩|⟨-,d,-,h2,-⟩
  ·exact h2.only.size
  ·exact h2.size
 have hlr:=zCT cs cs.length;have H:=zh h;have Hmem:=zh hmem;have Hm:=zh hm;have Hlm:=zh hlm;have Hl:=zh hl;have Hlr:Hid (zU cs<n):=zh (by unfold zU;omega);have Hn:=zh hn;clear h hmem hm hlm hl hlr hn
 go_enter Tryz.func242,Tryz.ntmps242
 go_wp2
 go_loop [5,13] (fun p q=>∃ k:Nat,k≤n∧q=.int .i64 k∧∃ l:Int,p=.int .i64 l∧Hid (l=zAC mem k)) (fun _ q=>n-(intOf q).toNat)
 case atStart=>exact ⟨0,Nat.zero_le _,rfl,-1,rfl,zh rfl⟩
 case round=>
  obtain ⟨k,hk,rfl,l,rfl,hlk⟩:=hrel
  by_cases hlt:k<n
  ·have c1:=Hmem.out.cell k hlt;obtain ⟨x,hx⟩:∃ x,x=mem.getD k 0:=⟨_,rfl⟩;rw [←hx] at c1;have Hx:=zh hx;clear hx
   by_cases h0:x=0
   ·subst h0;go_wp2
    go_round
    case rel=>exact ⟨k+1,by omega,by go_num,l,rfl,zh (by rw [zAC,if_neg (by rw [←Hx.out];simp)];exact hlk.out)⟩
    case measure=>simp [intOf]<;>omega
   ·have hb0:(x != 0)=true:=by simp [h0]
    go_wp2
    go_round
    case rel=>exact ⟨k+1,by omega,by go_num,k,rfl,zh (by rw [zAC,if_pos (by rw [←Hx.out];exact h0)])⟩
    case measure=>simp [intOf]<;>omega
  ·obtain rfl:k=n:=by omega
   have Hll:Hid (m=true→l=zU cs):=zh (fun hm=>by rw [hlk.out];exact Hlm.out hm);clear hlk;go_wp2;obtain ⟨N,hN⟩:∃ N:Nat,N=k-1:=⟨_,rfl⟩;have hNk:((k:Int)-1)=(N:Int):=by omega
   rw [hNk];rw [←hN] at H;have HN:=zh hN;have hNl:N≤15:=by omega
   have hNk2:N<k:=by omega
   clear hN hNk
   go_loopw [8,25] (fun o q wr=>∃ (j z:Nat) (done:List Nat),j≤N∧q=.int .i64 j∧Hid (z=done.length)∧z≤j∧wr.ownsRow w.heap.size 3 1 o z (done.map fun (p:Nat)=>Value.int .i64 (p:Int))∧
    Coding w0 wP wr m ck b tb sb ovP eEnd dEnd (zj cs (zU cs) j (N-j)++os)∧Hid (done++zW cs (zU cs) j (N-j)=zW cs (zU cs) 0 N)∧Hid ((j:Int)≤zU cs)∧Spare sb w wr) (fun _ q _=>N-(intOf q).toNat)
   case atStart=>exact ⟨0,0,[],Nat.zero_le _,rfl,zh rfl,Nat.le_refl _,World.ownsRow_nil _ _ _ _,by rw [Nat.sub_zero];exact H.out,zh (by simp),zh (by have:=Hl.out;omega),⟨Nat.le_refl _,fun _ _ h _=>h,fun _ _ h=>h⟩⟩
   case round=>
    obtain ⟨j,z,done,hj,rfl,hz,hzj,hown,hcd,hdn,hjl,hsp⟩:=hrel;have Hown:=zh hown;have Hcd:=zh hcd;have Hsp:=zh hsp;have hmem2:=Hmem.out.spare hsp (by omega);have Hmem2:=zh hmem2;have hws:=hsp.1
    by_cases hlt2:j<N
    ·have c1:=hmem2.cell j (by omega);obtain ⟨x,hx⟩:∃ x,x=mem.getD j 0:=⟨_,rfl⟩;rw [←hx] at c1;have Hx:=zh hx;have hstep:N-j=(N-(j+1))+1:=by omega
     have hinc:0≤zC5 j∧zC5 j≤7:=by unfold zC5;omega
     have Hinc:=zh hinc;clear hx hown hcd hsp hmem2
     by_cases h0:cs.getD j 0=0
     ·have hcd2:=Hcd.out;rw [hstep,zj,if_pos h0,List.append_assoc] at hcd2;have hdn2:=hdn.out;rw [hstep,zW,if_pos h0] at hdn2;have Hcd2:=zh hcd2;have Hdn2:=zh hdn2;have Hu:Hid (m=true→Zi (x != 0)=0):=zh (fun hm=>by rw [Hx.out,Hm.out hm j (by omega),h0];rfl);have Hjl:Hid (((j+1:Nat):Int)≤zU cs):=zh (by
       have h1:=hjl.out;have h2:(j:Int)≠zU cs:=by
        intro he;have h3:=zE6 cs cs.length (by unfold zU at he;omega);have h4:(zAC cs cs.length).toNat=j:=by unfold zU at he;omega
        rw [h4] at h3;exact h3 h0
       omega)
      clear hcd2 hdn2 hstep h0
      go_wp2_with fail
      refine (zAZ (x != 0) wr).mono ?_;rintro r w3 ⟨rfl,rfl⟩
      go_wp2_with fail
      refine (zAP 15 (zC5 j) 0 (Zi (x != 0)) Hcd2.out rfl Hinc.out.1 Hinc.out.2 Hu.out).mono ?_;rintro r w4 ⟨rfl,g1,g2⟩;have G1:=zh g1;have G2:=zh (Hsp.out.trans g2);have G3:=zh (g2.row Hown.out (by have:=Hcd2.out.lsb;omega));clear g1 g2;go_wp2
      go_roundw
      case rel=>exact ⟨j+1,z,done,by omega,by go_num,hz,by omega,G3.out,G1.out,Hdn2,Hjl,G2.out⟩
      case measure=>simp [intOf]<;>omega
     ·have hcd2:=Hcd.out;rw [hstep,zj,if_neg h0,List.append_assoc,List.append_assoc] at hcd2;have hdn2:=hdn.out;rw [hstep,zW,if_neg h0] at hdn2;have Hcd2:=zh hcd2;have Hdn2:=zh hdn2;have Hu:Hid (m=true→Zi (x != 0)=1):=zh (fun hm=>by rw [Hx.out,Hm.out hm j (by omega),show (cs.getD j 0 != 0)=true from bne_iff_ne.2 h0];rfl);clear hcd2 hdn2 hstep h0
      go_wp2_with fail
      refine (zAZ (x != 0) wr).mono ?_;rintro r w3 ⟨rfl,rfl⟩
      go_wp2_with fail
      refine (zAP 15 (zC5 j) 1 (Zi (x != 0)) Hcd2.out rfl Hinc.out.1 Hinc.out.2 Hu.out).mono ?_;rintro r w4 ⟨rfl,g1,g2⟩;have G1:=zh g1;have G2:=zh (Hsp.out.trans g2);have G3:=zh (g2.row Hown.out (by have:=Hcd2.out.lsb;omega));have hw4:w.heap.size≤w4.heap.size:=by have:=g2.1;omega
      clear g1 g2
      go_wp2_with (at_builtin;refine zf rfl _ _ rfl zEQ w.heap.size _ _ _ _ G3.out rfl rfl (by simp) rfl hw4 (by decide) (by omega) ?_)
      intro g5 cap5 w5 hp;obtain ⟨o5,b5⟩:=zBG hp G3.out;have K5:=zh (G1.out.past o5 (fun i hi=>by
       obtain ⟨q1,q2⟩:=b5 i (by simpa using hi);exact ⟨by omega,q2⟩))
      have Own5:=zh (show w5.ownsRow w.heap.size 3 1 (.slice (some ⟨g5,0,none⟩) (z+1) cap5) (z+1) ((done++[j]).map fun (p:Nat)=>Value.int .i64 (p:Int)) from zS hp.1 rfl (by simp));have Sp5:Hid (Spare sb w w5):=zh ⟨Nat.le_trans hw4 o5.size,fun k cs hk hne=>o5.heap (G2.out.2.1 k cs hk hne) (fun hi=>by have:=(b5 k (by simpa using hi)).1;have:=lt_of_block hk;omega),fun k cs hk=>o5.heap (G2.out.2.2 k cs hk) (fun hi=>by have:=(b5 k (by simpa using hi)).1;have:=lt_of_block hk;omega)⟩;have hz5:w.heap.size≤w5.heap.size:=Nat.le_trans hw4 o5.size;clear hp o5 b5
      by_cases he:(j:Int)=zU cs
      ·have hcd3:=K5.out;have hdn3:=Hdn2.out;rw [if_pos he,List.nil_append,show decide ((j:Int)=zU cs)=true from decide_eq_true he] at hcd3;rw [if_pos he] at hdn3;have Hcd3:=zh hcd3;have Hdn3:=zh hdn3;have Hu3:Hid (m=true→Zi ((j:Int)==l)=1):=zh (fun hm=>by rw [Hll.out hm,he];simp [Zi]);clear hcd3 hdn3 he
       go_wp2_with fail
       refine (zAZ ((j:Int)==l) w5).mono ?_;rintro r w6 ⟨rfl,rfl⟩
       go_wp2_with fail
       refine (zAP 16 (zC5 j) 1 (Zi ((j:Int)==l)) Hcd3.out rfl Hinc.out.1 Hinc.out.2 Hu3.out).mono ?_;rintro r w7 ⟨rfl,g1,g2⟩;have K7:=zh g1;have Sp7:=zh (Sp5.out.trans g2);have Own7:=zh (g2.row Own5.out (by have:=Hcd3.out.lsb;omega));clear g1 g2;go_wp2;go_ret;refine ⟨_,rfl,?_,K7.out,Sp7.out⟩;rw [←HN.out,←Hdn3.out];exact zS Own7.out (by rw [hz.out];simp) rfl
      ·have hcd3:=K5.out;have hdn3:=Hdn2.out;rw [if_neg he,show decide ((j:Int)=zU cs)=false from decide_eq_false he] at hcd3;rw [if_neg he] at hdn3;have Hcd3:=zh hcd3;have Hdn3:Hid ((done++[j])++zW cs (zU cs) (j+1) (N-(j+1))=zW cs (zU cs) 0 N):=zh (by rw [←hdn3];simp);have Hu3:Hid (m=true→Zi ((j:Int)==l)=0):=zh (fun hm=>by rw [Hll.out hm];simp [Zi,he]);have Hjl:Hid (((j+1:Nat):Int)≤zU cs):=zh (by have h1:=hjl.out;omega);clear hcd3 hdn3 he
       go_wp2_with fail
       refine (zAZ ((j:Int)==l) w5).mono ?_;rintro r w6 ⟨rfl,rfl⟩
       go_wp2_with fail
       refine (zAP 16 (zC5 j) 0 (Zi ((j:Int)==l)) Hcd3.out rfl Hinc.out.1 Hinc.out.2 Hu3.out).mono ?_;rintro r w7 ⟨rfl,g1,g2⟩;have K7:=zh g1;have Sp7:=zh (Sp5.out.trans g2);have Own7:=zh (g2.row Own5.out (by have:=Hcd3.out.lsb;omega));clear g1 g2;go_wp2
       go_roundw
       case rel=>exact ⟨j+1,z+1,done++[j],by omega,by go_num,zh (by rw [hz.out];simp),by omega,Own7.out,K7.out,Hdn3,Hjl,Sp7.out⟩
       case measure=>simp [intOf]<;>omega
    ·obtain rfl:j=N:=by omega
     have hcd2:=Hcd.out;rw [Nat.sub_self,zj,List.nil_append] at hcd2;have hdn2:=hdn.out;rw [Nat.sub_self,zW] at hdn2;have Hcd2:=zh hcd2;have Hdn2:=zh hdn2;have hkj:(k:Int)-1=(j:Int):=by have:=HN.out;omega
     have Hkj:=zh hkj;clear hcd2 hdn2 hkj hown hcd hsp hmem2
     go_wp2_with (at_builtin;refine zf rfl _ _ rfl zEQ w.heap.size _ _ _ _ Hown.out rfl rfl (by simp) rfl (by omega) (by decide) (by omega) ?_)
     intro g5 cap5 w5 hp;obtain ⟨o5,b5⟩:=zBG hp Hown.out;have K5:=zh (Hcd2.out.past o5 (fun i hi=>by
      obtain ⟨q1,q2⟩:=b5 i (by simpa using hi);exact ⟨by omega,q2⟩))
     have Own5:=zh (show w5.ownsRow w.heap.size 3 1 (.slice (some ⟨g5,0,none⟩) (z+1) cap5) (z+1) ((done++[j]).map fun (p:Nat)=>Value.int .i64 (p:Int)) from zS hp.1 rfl (by simp [Hkj.out]));have Sp5:Hid (Spare sb w w5):=zh ⟨Nat.le_trans hws o5.size,fun k cs hk hne=>o5.heap (Hsp.out.2.1 k cs hk hne) (fun hi=>by have:=(b5 k (by simpa using hi)).1;have:=lt_of_block hk;omega),fun k cs hk=>o5.heap (Hsp.out.2.2 k cs hk) (fun hi=>by have:=(b5 k (by simpa using hi)).1;have:=lt_of_block hk;omega)⟩;clear hp o5 b5;go_wp2;go_ret;refine ⟨_,rfl,?_,K5.out,Sp5.out⟩;rw [←HN.out,←Hdn2.out];exact zS Own5.out (by rw [hz.out];simp) rfl
theorem MemAt.set {w:World} {mb n p:Nat} {mem:List Int} (h:MemAt w mb n mem) (v:Int) (hp:p<mem.length):MemAt (w.setCell ⟨mb,p,none⟩ (.int .i64 v)) mb n (mem.set p v):=by
 obtain ⟨cur,h1,h2⟩:=h;refine ⟨_,zB _ h1,fun i hi=>?_⟩;have h3:=h2 i hi
 by_cases hip:p=i
 ·subst hip;have hlt:p<cur.size:=by
   rcases Nat.lt_or_ge p cur.size with h|h
   ·exact h
   ·rw [Array.getElem?_eq_none h] at h3;cases h3
  rw [Array.getElem?_setIfInBounds,if_pos rfl,if_pos hlt];simp [List.getD,hp]
 ·rw [Array.getElem?_setIfInBounds,if_neg hip,h3];simp [List.getD,hip]
def Za (cs mem:List Int) (D:List Nat):List Int:=(List.range mem.length).map fun i=>if i∈D then cs.getD i 0 else mem.getD i 0
theorem zAp (cs mem:List Int) (D:List Nat):(Za cs mem D).length=mem.length:=by simp [Za]
theorem zIs (cs mem:List Int) (D:List Nat) (i:Nat) (hi:i<mem.length):(Za cs mem D).getD i 0=if i∈D then cs.getD i 0 else mem.getD i 0:=by
 simp [Za,List.getD,hi]
theorem zEj (cs mem:List Int):Za cs mem []=mem:=by
 apply List.ext_getElem?
 intro i
 by_cases h:i<mem.length
 ·simp [Za,h,List.getD]
 ·simp [Za,h]
theorem zBy (cs mem:List Int) (D:List Nat) (p:Nat):(Za cs mem D).set p (cs.getD p 0)=Za cs mem (p::D):=by
 apply List.ext_getElem?
 intro i;rw [List.getElem?_set]
 by_cases h:i<mem.length
 ·by_cases hp:p=i
  ·subst hp;simp [Za,h]
  ·have hp2:¬ i=p:=fun e=>hp e.symm
   simp [Za,h,hp,hp2]
 ·by_cases hp:p=i
  ·subst hp;simp [Za,h]
  ·simp [Za,h,hp]
theorem zD8 (cs mem:List Int) (P:List Nat) (hl:cs.length=mem.length) (h:∀ i,i<cs.length→i∉P→mem.getD i 0=cs.getD i 0):Za cs mem P=cs:=by
 apply List.ext_getElem?
 intro i
 by_cases hi:i<mem.length
 ·have hi2:i<cs.length:=by omega
  have h1:=h i hi2;simp only [Za,List.getElem?_map,List.getElem?_range hi,Option.map_some,List.getElem?_eq_getElem hi2]
  congr 1
  split
  ·simp [List.getD,List.getElem?_eq_getElem hi2]
  ·rename_i hn;rw [h1 hn];simp [List.getD,List.getElem?_eq_getElem hi2]
 ·have hi2:¬ i<cs.length:=by omega
  simp [Za,hi,List.getElem?_eq_none (by omega:cs.length≤i)]
theorem zNh (v:Int) (h0:0≤v) (h1:v≤65535):zAx 17 v 1=0:=by
 have hk:zK 17=4:=by decide
 unfold zAx;rw [hk,if_pos (by simp [zy];omega)]
theorem zK7 (pe:Value) (w:World):
 CallsD Tryz.prog 231 #[pe] .returning w fun e u' w'=>e=.returned (.tuple #[])∧u'=.returning∧w'=w:=by
 refine callsD_of_wpS Tryz.func231 rfl fun c₀ cs hu=>?_
 apply wpS_seq
 apply wpS_region
 simp [wpOpsS,go_sem,recoverD,hu,Tryz.ntmps231,Exit.thenS]
 apply wpS_seq
 apply wpS_region
 simp [wpOpsS,go_sem,Exit.thenS];refine wpS_cond (t:=false) (by simp [Act.eval,Array.replicate]) ?_;simp only [Bool.false_eq_true,if_false];refine wpS_of_wp (wp_skip ?_)
 cases c₀
 simp_all [bodyPostS,results,Tryz.results231]
theorem zK0 (P:List Nat) (q:Nat) (h:q<P.length):(P.take (q+1)).reverse=P.getD q 0::(P.take q).reverse:=by
 rw [List.take_add_one,List.getElem?_eq_getElem h];simp [List.getD,List.getElem?_eq_getElem h]
theorem zEd (P:List Nat) (q:Nat) (h:q<P.length):P.drop q=P.getD q 0::P.drop (q+1):=by
 rw [List.drop_eq_getElem_cons h];simp [List.getD,List.getElem?_eq_getElem h]
theorem zJn {w0 wP w:World} {m:Bool} {ck b tb sb:Nat} {ovP:Value} {eEnd:Enc} {dEnd:Dec} {os:List Deed} (cs mem:List Int) (mb n cap:Nat) (cat inc:Int) (h:Coding w0 wP w m ck b tb sb ovP eEnd dEnd (zZ cs cat inc++os))
 (hmem:MemAt w mb n mem) (hP:wP.heap.size≤mb) (hm:m=true→mem=cs) (hm0:m=false→∀ i,mem.getD i 0=0) (hml:mem.length=n) (hn:cs.length=n) (hn1:1≤n) (hn2:n≤16) (hr:∀ i,-32767≤cs.getD i 0∧cs.getD i 0≤32767)
 (c0:0≤cat) (c1:cat≤3) (i0:0≤inc) (i1:inc≤1):
 Calls Tryz.prog 232 #[.pointer (some ⟨ck,0,none⟩),.slice (some ⟨mb,0,none⟩) n cap,.int .i64 cat,.int .i64 inc] w fun r w'=>r=.returned (.tuple #[])∧
  MemAt w' mb n cs∧Coding w0 wP w' m ck b tb sb ovP eEnd dEnd os∧zMD w w':=by
 have hsb:sb<mb:=by have:=h.lsb;omega
 have hlr:=zCT cs cs.length;have hlm:m=true→zAC mem n=zU cs:=fun hm'=>by rw [hm hm',←hn];rfl
 have hmi:m=true→∀ i,i<n→mem.getD i 0=cs.getD i 0:=fun hm' i _=>by rw [hm hm']
 have hso:m=true→zDF mem n=decide (0≤zU cs):=fun hm'=>by rw [zHn,hlm hm']
 have H:=zh h;have Hmem:=zh hmem;have Hm0:=zh hm0;have Hlm:=zh hlm;have Hmi:=zh hmi;have Hso:=zh hso;have Hn:=zh hn;have Hml:=zh hml;have Hr:=zh hr;clear h hmem hm hm0 hlm hmi hso hml hn hlr hr
 go_enter Tryz.func232,Tryz.ntmps232
 go_wp2
 go_loop [8,18] (fun p q=>∃ k:Nat,k≤n∧q=.int .i64 k∧∃ l:Bool,p=.bool l∧Hid (l=zDF mem k)) (fun _ q=>n-(intOf q).toNat)
 case atStart=>exact ⟨0,Nat.zero_le _,rfl,false,rfl,zh rfl⟩
 case round=>
  obtain ⟨k,hk,rfl,l,rfl,hlk⟩:=hrel
  by_cases hlt:k<n
  ·have e1:=Hmem.out.cell k hlt;obtain ⟨x,hx⟩:∃ x,x=mem.getD k 0:=⟨_,rfl⟩;rw [←hx] at e1;have Hx:=zh hx;clear hx
   cases l with
   |true=>
    go_wp2
    go_round
    case rel=>exact ⟨k+1,by omega,by go_num,true,rfl,zh (by rw [zDF,←hlk.out];rfl)⟩
    case measure=>simp [intOf]<;>omega
   |false=>
    by_cases h0:x=0
    ·subst h0;go_wp2
     go_round
     case rel=>exact ⟨k+1,by omega,by go_num,false,rfl,zh (by rw [zDF,←hlk.out,←Hx.out];rfl)⟩
     case measure=>simp [intOf]<;>omega
    ·have hb0:(x != 0)=true:=by simp [h0]
     go_wp2
     go_round
     case rel=>exact ⟨k+1,by omega,by go_num,true,rfl,zh (by rw [zDF,←hlk.out,←Hx.out];simp [h0])⟩
     case measure=>simp [intOf]<;>omega
  ·obtain rfl:k=n:=by omega
   have Hll:Hid (m=true→l=decide (0≤zU cs)):=zh (fun hm=>by rw [hlk.out];exact Hso.out hm);clear hlk
   by_cases hl:0≤zU cs
   ·have hcd:=H.out;unfold zZ at hcd;rw [if_pos hl,List.append_assoc,List.append_assoc,Hn.out] at hcd;have Hcd:=zh hcd;have Hu:Hid (m=true→Zi l=1):=zh (fun hm=>by rw [Hll.out hm,decide_eq_true hl];rfl);have Hl:=zh hl;clear hcd hl
    go_wp2_with fail
    refine (zAZ l w).mono ?_;rintro r w3 ⟨rfl,rfl⟩
    go_wp2_with fail
    refine (zAP 14 (2*cat+inc) 1 (Zi l) Hcd.out rfl (by omega) (by omega) Hu.out).mono ?_;rintro r w4 ⟨rfl,g1,g2⟩;have G1:=zh g1;have G2:=zh g2;have M4:=zh (Hmem.out.spare g2 (by omega));clear g1 g2
    go_wp2_with fail
    refine (zIw cs mem mb k cap G1.out M4.out hP Hmi.out Hlm.out Hn.out hn1 hn2 Hl.out).mono ?_;rintro r w5 ⟨v,rfl,g3,g1,g2⟩;have Sp5:=zh (G2.out.trans g2);have M5:=zh (M4.out.spare g2 (by omega));obtain ⟨P,hPd⟩:∃ P,P=zW cs (zU cs) 0 (k-1):=⟨_,rfl⟩;rw [←hPd] at g3 g1;obtain ⟨pm1,pm2⟩:=zG9 cs (zU cs) (k-1) 0 (by have:=Hn.out;omega) rfl Hl.out;rw [←hPd] at pm1 pm2;have hPl:P.length≤16:=by have:=zCO cs (zU cs) (k-1) 0;rw [hPd];omega
    have hPp:0<P.length:=by rw [hPd];exact zG8 _ _ _ _
    obtain ⟨g,cap2,rfl,hgB,hgl⟩:=g3.form hPp;have hmb4:mb<w4.heap.size:=by obtain ⟨cur,hc,-⟩:=M4.out;exact lt_of_block hc
    have Own5:=zh g3;have K5:=zh g1;have Pm1:=zh pm1;have Pm2:=zh pm2;obtain ⟨L,hL⟩:∃ L,L=P.length:=⟨_,rfl⟩;rw [←hL] at Own5 hPl hPp ⊢;have HL:=zh hL;obtain ⟨fl,hfl⟩:∃ fl,fl=Zi (decide (1<cat)):=⟨_,rfl⟩;have hfl1:0≤fl∧fl≤1:=by rw [hfl];rcases zDv (decide (1<cat)) with h|h<;>rw [h]<;>omega
    obtain ⟨hfl0,hfl1⟩:=hfl1;have Hfl:=zh hfl;clear g1 g2 g3 pm1 pm2 hPd hL hfl;go_wp2
    go_loopw [12,13] (fun gr i wr=>∃ (q gg:Nat),q≤L∧i=.int .i64 ((q:Int)-1)∧gr=.int .i64 gg∧gg+q≤16∧Coding w0 wP wr m ck b tb sb ovP eEnd dEnd (zAM cs cat (P.take q).reverse gg++os)∧
     Hid (MemAt wr mb k (Za cs mem (P.drop q)))∧Hid (wr.ownsRow w4.heap.size 3 1 (.slice (some ⟨g,0,none⟩) L cap2) L (P.map fun (p:Nat)=>Value.int .i64 (p:Int)))∧Hid (zMD w wr)) (fun _ i _=>(intOf i+1).toNat)
    case atStart=>exact ⟨L,0,Nat.le_refl _,rfl,rfl,by omega,by rw [HL.out,List.take_length];exact K5.out,zh (by rw [HL.out,List.drop_length,zEj];exact M5.out),Own5,zh Sp5.out.2.2⟩
    case round=>
     obtain ⟨q,gg,hq,rfl,rfl,hgq,hcd,hme,how,hca⟩:=hrel;have Hc:=zh hcd
     by_cases hq1:1≤q
     ·obtain ⟨q,rfl⟩:∃ q',q=q'+1:=⟨q-1,by omega⟩;have hqP:q<P.length:=by rw [←HL.out];omega
      obtain ⟨p,hp⟩:∃ p,p=P.getD q 0:=⟨_,rfl⟩;have hpm:p∈P:=by rw [hp];simp only [List.getD,List.getElem?_eq_getElem hqP,Option.getD_some];exact List.getElem_mem hqP
      obtain ⟨-,hpn,hp0⟩:=Pm1.out p hpm;rw [Hn.out] at hpn;have hcd2:=hcd;rw [zK0 P q hqP,←hp,zAM,List.append_assoc,List.cons_append] at hcd2;have Hcd2:=zh hcd2;have hat:wr.cell? ⟨g,q,none⟩=some (.int .i64 (p:Int)):=by
       rw [how.out.cellAt q (by omega),List.getElem?_map,List.getElem?_eq_getElem hqP,hp];simp [List.getD,List.getElem?_eq_getElem hqP]
      obtain ⟨X,hX⟩:∃ X,X=(Za cs mem (P.drop (q+1))).getD p 0:=⟨_,rfl⟩;have hXc:=hme.out.cell p hpn;rw [←hX] at hXc;have hXv:X=if p∈P.drop (q+1) then cs.getD p 0 else mem.getD p 0:=by rw [hX,zIs _ _ _ _ (by rw [Hml.out];exact hpn)]
      have HXe:Hid (m=true→X=cs.getD p 0):=zh (fun hm'=>by rw [hXv,Hmi.out hm' p hpn];split<;>rfl);have hXr:-32767≤X∧X≤32767:=by
       have h1:=Hr.out p;rw [hXv]
       split
       ·exact h1
       ·cases m with
        |true=>rw [Hmi.out rfl p hpn];exact h1
        |false=>rw [Hm0.out rfl p];omega
      obtain ⟨hXr0,hXr1⟩:=hXr;have hcr:=Hr.out p;obtain ⟨c,hcc⟩:∃ c,c=cs.getD p 0:=⟨_,rfl⟩;rw [←hcc] at hcr hp0 HXe Hcd2;obtain ⟨hcr0,hcr1⟩:=hcr;obtain ⟨A,hA⟩:∃ A:Nat,A=c.natAbs:=⟨_,rfl⟩;rw [←hA] at Hcd2;have hA1:1≤A∧A≤32767:=by omega
      obtain ⟨hA1,hA2⟩:=hA1;have Hcc:=zh hcc;have hsg:Hid ((c<0∧c=-(A:Int))∨(0<c∧c=(A:Int))):=zh (by omega);have Hp:=zh hp;have hplt:(p:Int)<k:=by omega
      have hu1:Hid (m=true→max X (-X)-1=(A:Int)-1):=zh (fun hm'=>by rw [HXe.out hm'];omega);have hrk:Hid (zG3 cat gg=min 5 (gg:Int)+fl):=zh (by rw [Hfl.out];rfl);have hzP:wP.heap.size≤wr.heap.size:=by
       rcases hcd.run with ⟨-,ov,e,-,h2,-⟩|⟨-,d,-,h2,-⟩
       ·exact h2.only.size
       ·exact h2.size
      have hzg:g<wr.heap.size:=by obtain ⟨cur,hc⟩:=zD how.out (g:=g) rfl;exact lt_of_block hc
      clear hcd hcd2 hp hX hXv hcc hA hp0 hpm
      go_wp2_with fail
      refine (zAZ (decide (1<cat)) wr).mono ?_;rintro r w6 ⟨rfl,rfl⟩;rw [←Hfl.out];have Hcd3:=Hcd2;rw [hrk.out] at Hcd3
      go_wp2_with fail
      refine (zAP 17 (min 5 (gg:Int)+fl) ((A:Int)-1) (max X (-X)-1) Hcd3.out (zNh _ (by omega) (by omega)) (by omega) (by omega) hu1.out).mono ?_;rintro r w6 ⟨rfl,g1,g2⟩;have K6:=zh g1;have M6:=zh (hme.out.spare g2 (by omega));have hgs:sb<w4.heap.size:=by have:=Hcd3.out.lsb;omega
      have O6:=zh (g2.row how.out hgs);have C6:Hid (zMD w w6):=zh (fun z zs hz=>g2.2.2 z zs (hca.out z zs hz));clear g1 g2;have hqP:=zh hqP
      by_cases hgt:1<A
      ·have k6:=K6.out;rw [if_pos hgt] at k6;have K6a:=zh k6;clear k6
       rcases hsg.out with ⟨hneg,hcA⟩|⟨hneg,hcA⟩
       ·have k6:=K6a.out;rw [decide_eq_true hneg] at k6;have K6b:=zh k6;have Hu2:Hid (m=true→Zi (decide (X<0))=1):=zh (fun hm'=>by rw [HXe.out hm',decide_eq_true hneg];rfl);have hcA:=zh hcA;clear k6 hneg
        go_wp2_with fail
        refine (zAZ (decide (X<0)) w6).mono ?_;rintro r w7 ⟨rfl,rfl⟩
        go_wp2_with fail
        refine (zEZ 1 (Zi (decide (X<0))) K6b.out (by omega) Hu2.out).mono ?_;rintro r w8 ⟨rfl,g1,g2⟩;have M8:=M6.out.spare g2 (by omega);have O8:=zh (g2.row O6.out hgs);have e1:w8.cell? ⟨g,q,none⟩=some (.int .i64 (p:Int)):=by
         rw [O8.out.cellAt q (by omega),List.getElem?_map,List.getElem?_eq_getElem hqP.out,Hp.out];simp [List.getD,List.getElem?_eq_getElem hqP.out]
        have e2:=M8.cell p hpn;have e3:=M8.free p;have e2x:∃ y,w8.cell? ⟨mb,p,none⟩=some (.int .i64 y):=⟨_,e2⟩;obtain ⟨y,e2⟩:=e2x;have hset:=M8.set (p:=p) (-(A:Int)) (by rw [zAp,Hml.out];exact hpn);have hmm:(Za cs mem (P.drop (q+1))).set p (-(A:Int))=Za cs mem (P.drop q):=by
         rw [show (-(A:Int):Int)=cs.getD p 0 by rw [←Hcc.out];exact hcA.out.symm,zBy,zEd P q hqP.out,Hp.out]
        rw [hmm] at hset;have Mset:=zh hset;obtain ⟨mcur,hmcur,-⟩:=M8;have Kset:=zh (g1.past (((Only.refl [mb] w8)).setCell (p:=⟨mb,p,none⟩) (.inl (by simp)) (.int .i64 (-(A:Int)))) (fun i hi=>by simp at hi;subst hi;exact ⟨hP,_,hmcur⟩));have Oset:=zh (zF (w':=w8.setCell ⟨mb,p,none⟩ (.int .i64 (-(A:Int)))) O8.out (fun z hz=>by simp [Value.ownBlock] at hz;exact Below.heap_setCell _ _ _ _ (show z≠mb by omega)));have C8:Hid (zMD w (w8.setCell ⟨mb,p,none⟩ (.int .i64 (-(A:Int))))):=zh (fun z zs hz=>zC _ (g2.2.2 z zs (C6.out z zs hz)) (ZC (g2.2.2 z zs (C6.out z zs hz)) hmcur (by decide)));clear g1 g2 hset hmm hmcur;go_wp2
        go_roundw
        case rel=>exact ⟨q,gg+1,by omega,by go_num,by go_num,by omega,Kset.out,Mset,Oset,C8⟩
        case measure=>simp [intOf]<;>omega
       ·have k6:=K6a.out;rw [decide_eq_false (by omega)] at k6;have K6b:=zh k6;have Hu2:Hid (m=true→Zi (decide (X<0))=0):=zh (fun hm'=>by rw [HXe.out hm',decide_eq_false (by omega)];rfl);have hcA:=zh hcA;clear k6 hneg
        go_wp2_with fail
        refine (zAZ (decide (X<0)) w6).mono ?_;rintro r w7 ⟨rfl,rfl⟩
        go_wp2_with fail
        refine (zEZ 0 (Zi (decide (X<0))) K6b.out (by omega) Hu2.out).mono ?_;rintro r w8 ⟨rfl,g1,g2⟩;have M8:=M6.out.spare g2 (by omega);have O8:=zh (g2.row O6.out hgs);have e1:w8.cell? ⟨g,q,none⟩=some (.int .i64 (p:Int)):=by
         rw [O8.out.cellAt q (by omega),List.getElem?_map,List.getElem?_eq_getElem hqP.out,Hp.out];simp [List.getD,List.getElem?_eq_getElem hqP.out]
        have e2:=M8.cell p hpn;have e3:=M8.free p;have e2x:∃ y,w8.cell? ⟨mb,p,none⟩=some (.int .i64 y):=⟨_,e2⟩;obtain ⟨y,e2⟩:=e2x;have hset:=M8.set (p:=p) ((A:Int)) (by rw [zAp,Hml.out];exact hpn);have hmm:(Za cs mem (P.drop (q+1))).set p ((A:Int))=Za cs mem (P.drop q):=by
         rw [show ((A:Int):Int)=cs.getD p 0 by rw [←Hcc.out];exact hcA.out.symm,zBy,zEd P q hqP.out,Hp.out]
        rw [hmm] at hset;have Mset:=zh hset;obtain ⟨mcur,hmcur,-⟩:=M8;have Kset:=zh (g1.past (((Only.refl [mb] w8)).setCell (p:=⟨mb,p,none⟩) (.inl (by simp)) (.int .i64 ((A:Int)))) (fun i hi=>by simp at hi;subst hi;exact ⟨hP,_,hmcur⟩));have Oset:=zh (zF (w':=w8.setCell ⟨mb,p,none⟩ (.int .i64 ((A:Int)))) O8.out (fun z hz=>by simp [Value.ownBlock] at hz;exact Below.heap_setCell _ _ _ _ (show z≠mb by omega)));have C8:Hid (zMD w (w8.setCell ⟨mb,p,none⟩ (.int .i64 ((A:Int))))):=zh (fun z zs hz=>zC _ (g2.2.2 z zs (C6.out z zs hz)) (ZC (g2.2.2 z zs (C6.out z zs hz)) hmcur (by decide)));clear g1 g2 hset hmm hmcur;go_wp2
        go_roundw
        case rel=>exact ⟨q,gg+1,by omega,by go_num,by go_num,by omega,Kset.out,Mset,Oset,C8⟩
        case measure=>simp [intOf]<;>omega
      ·have k6:=K6.out;rw [if_neg hgt] at k6;have K6a:=zh k6;clear k6
       rcases hsg.out with ⟨hneg,hcA⟩|⟨hneg,hcA⟩
       ·have k6:=K6a.out;rw [decide_eq_true hneg] at k6;have K6b:=zh k6;have Hu2:Hid (m=true→Zi (decide (X<0))=1):=zh (fun hm'=>by rw [HXe.out hm',decide_eq_true hneg];rfl);have hcA:=zh hcA;clear k6 hneg
        go_wp2_with fail
        refine (zAZ (decide (X<0)) w6).mono ?_;rintro r w7 ⟨rfl,rfl⟩
        go_wp2_with fail
        refine (zEZ 1 (Zi (decide (X<0))) K6b.out (by omega) Hu2.out).mono ?_;rintro r w8 ⟨rfl,g1,g2⟩;have M8:=M6.out.spare g2 (by omega);have O8:=zh (g2.row O6.out hgs);have e1:w8.cell? ⟨g,q,none⟩=some (.int .i64 (p:Int)):=by
         rw [O8.out.cellAt q (by omega),List.getElem?_map,List.getElem?_eq_getElem hqP.out,Hp.out];simp [List.getD,List.getElem?_eq_getElem hqP.out]
        have e2:=M8.cell p hpn;have e3:=M8.free p;have e2x:∃ y,w8.cell? ⟨mb,p,none⟩=some (.int .i64 y):=⟨_,e2⟩;obtain ⟨y,e2⟩:=e2x;have hset:=M8.set (p:=p) (-(A:Int)) (by rw [zAp,Hml.out];exact hpn);have hmm:(Za cs mem (P.drop (q+1))).set p (-(A:Int))=Za cs mem (P.drop q):=by
         rw [show (-(A:Int):Int)=cs.getD p 0 by rw [←Hcc.out];exact hcA.out.symm,zBy,zEd P q hqP.out,Hp.out]
        rw [hmm] at hset;have Mset:=zh hset;obtain ⟨mcur,hmcur,-⟩:=M8;have Kset:=zh (g1.past (((Only.refl [mb] w8)).setCell (p:=⟨mb,p,none⟩) (.inl (by simp)) (.int .i64 (-(A:Int)))) (fun i hi=>by simp at hi;subst hi;exact ⟨hP,_,hmcur⟩));have Oset:=zh (zF (w':=w8.setCell ⟨mb,p,none⟩ (.int .i64 (-(A:Int)))) O8.out (fun z hz=>by simp [Value.ownBlock] at hz;exact Below.heap_setCell _ _ _ _ (show z≠mb by omega)));have C8:Hid (zMD w (w8.setCell ⟨mb,p,none⟩ (.int .i64 (-(A:Int))))):=zh (fun z zs hz=>zC _ (g2.2.2 z zs (C6.out z zs hz)) (ZC (g2.2.2 z zs (C6.out z zs hz)) hmcur (by decide)));clear g1 g2 hset hmm hmcur;go_wp2
        go_roundw
        case rel=>exact ⟨q,gg,by omega,by go_num,rfl,by omega,Kset.out,Mset,Oset,C8⟩
        case measure=>simp [intOf]<;>omega
       ·have k6:=K6a.out;rw [decide_eq_false (by omega)] at k6;have K6b:=zh k6;have Hu2:Hid (m=true→Zi (decide (X<0))=0):=zh (fun hm'=>by rw [HXe.out hm',decide_eq_false (by omega)];rfl);have hcA:=zh hcA;clear k6 hneg
        go_wp2_with fail
        refine (zAZ (decide (X<0)) w6).mono ?_;rintro r w7 ⟨rfl,rfl⟩
        go_wp2_with fail
        refine (zEZ 0 (Zi (decide (X<0))) K6b.out (by omega) Hu2.out).mono ?_;rintro r w8 ⟨rfl,g1,g2⟩;have M8:=M6.out.spare g2 (by omega);have O8:=zh (g2.row O6.out hgs);have e1:w8.cell? ⟨g,q,none⟩=some (.int .i64 (p:Int)):=by
         rw [O8.out.cellAt q (by omega),List.getElem?_map,List.getElem?_eq_getElem hqP.out,Hp.out];simp [List.getD,List.getElem?_eq_getElem hqP.out]
        have e2:=M8.cell p hpn;have e3:=M8.free p;have e2x:∃ y,w8.cell? ⟨mb,p,none⟩=some (.int .i64 y):=⟨_,e2⟩;obtain ⟨y,e2⟩:=e2x;have hset:=M8.set (p:=p) ((A:Int)) (by rw [zAp,Hml.out];exact hpn);have hmm:(Za cs mem (P.drop (q+1))).set p ((A:Int))=Za cs mem (P.drop q):=by
         rw [show ((A:Int):Int)=cs.getD p 0 by rw [←Hcc.out];exact hcA.out.symm,zBy,zEd P q hqP.out,Hp.out]
        rw [hmm] at hset;have Mset:=zh hset;obtain ⟨mcur,hmcur,-⟩:=M8;have Kset:=zh (g1.past (((Only.refl [mb] w8)).setCell (p:=⟨mb,p,none⟩) (.inl (by simp)) (.int .i64 ((A:Int)))) (fun i hi=>by simp at hi;subst hi;exact ⟨hP,_,hmcur⟩));have Oset:=zh (zF (w':=w8.setCell ⟨mb,p,none⟩ (.int .i64 ((A:Int)))) O8.out (fun z hz=>by simp [Value.ownBlock] at hz;exact Below.heap_setCell _ _ _ _ (show z≠mb by omega)));have C8:Hid (zMD w (w8.setCell ⟨mb,p,none⟩ (.int .i64 ((A:Int))))):=zh (fun z zs hz=>zC _ (g2.2.2 z zs (C6.out z zs hz)) (ZC (g2.2.2 z zs (C6.out z zs hz)) hmcur (by decide)));clear g1 g2 hset hmm hmcur;go_wp2
        go_roundw
        case rel=>exact ⟨q,gg,by omega,by go_num,rfl,by omega,Kset.out,Mset,Oset,C8⟩
        case measure=>simp [intOf]<;>omega
     ·obtain rfl:q=0:=by omega
      have hfin:Za cs mem (P.drop 0)=cs:=by
       rw [List.drop_zero];refine zD8 cs mem P (by rw [Hn.out,Hml.out]) fun i hi hni=>?_
       have hz:cs.getD i 0=0:=by
        by_cases h0:cs.getD i 0=0
        ·exact h0
        ·exact absurd (Pm2.out i (by omega) hi h0) hni
       rw [Hn.out] at hi
       cases m with
       |true=>exact Hmi.out rfl i hi
       |false=>rw [Hm0.out rfl i,hz]
      have hme2:=hme.out;rw [hfin] at hme2;have Hme:=zh hme2;have hc2:=Hc.out;rw [List.take_zero,List.reverse_nil,zAM,List.nil_append] at hc2;have Hc2:=zh hc2;clear hfin hme2 hc2 hcd;go_wp2;go_end0;exact ⟨rfl,Hme.out,Hc2.out,hca.out⟩
   ·have hcd:=H.out;unfold zZ at hcd;rw [if_neg hl] at hcd;have Hcd:=zh hcd;have Hu:Hid (m=true→Zi l=0):=zh (fun hm=>by rw [Hll.out hm,decide_eq_false hl];rfl);have hz:∀ i,i<k→cs.getD i 0=0:=fun i hi=>by
     by_cases h0:cs.getD i 0=0
     ·exact h0
     ·have:=zHH cs cs.length i (by rw [Hn.out];exact hi) h0;unfold zU at hl;omega
    have hmc:mem=cs:=by
     have h1:=zD8 cs mem [] (by rw [Hn.out,Hml.out]) (fun i hi _=>by
      rw [Hn.out] at hi
      cases m with
      |true=>exact Hmi.out rfl i hi
      |false=>rw [Hm0.out rfl i,hz i hi])
     rw [zEj] at h1;exact h1
    have Hmc:=zh hmc;clear hcd hl hz hmc
    go_wp2_with fail
    refine (zAZ l w).mono ?_;rintro r w3 ⟨rfl,rfl⟩
    go_wp2_with fail
    refine (zAP 14 (2*cat+inc) 0 (Zi l) Hcd.out rfl (by omega) (by omega) Hu.out).mono ?_;rintro r w4 ⟨rfl,g1,g2⟩;have G1:=zh g1;have M4:=zh (Hmem.out.spare g2 (by omega));rw [Hmc.out] at M4;have C4:=zh g2.2.2;clear g1 g2;go_wp2;refine bodyPost_ret (results_none rfl _ _ _) rfl ?_;exact ⟨rfl,M4.out,G1.out,C4.out⟩
theorem zJm {w0 wP w:World} {m:Bool} {ck b tb sb:Nat} {ovP:Value} {eEnd:Enc} {dEnd:Dec} {os:List Deed} (cs mem:List Int) (mb n cap:Nat) (cat inc:Int) (h:Coding w0 wP w m ck b tb sb ovP eEnd dEnd (zZ cs cat inc++os))
 (hmem:MemAt w mb n mem) (hP:wP.heap.size≤mb) (hm:m=true→mem=cs) (hm0:m=false→∀ i,mem.getD i 0=0) (hml:mem.length=n) (hn:cs.length=n) (hn1:1≤n) (hn2:n≤16) (hr:∀ i,-32767≤cs.getD i 0∧cs.getD i 0≤32767)
 (c0:0≤cat) (c1:cat≤3) (i0:0≤inc) (i1:inc≤1):
 Calls Tryz.prog 224 #[.pointer (some ⟨ck,0,none⟩),.slice (some ⟨mb,0,none⟩) n cap,.int .i64 cat,.int .i64 inc] w fun r w'=>r=.returned (.int .i64 0)∧
  MemAt w' mb n cs∧Coding w0 wP w' m ck b tb sb ovP eEnd dEnd os:=by
 have hmf:∀ (fn:Fn) (first cap:Array Value) (w:World),(Instr.makeFunc fn first cap).run Tryz.prog w=.ok (.func fn first cap) w:=fun _ _ _ _=>rfl
 have ho:Only [] w (w.alloc (.cells #[.int .i64 0] 32)):=(Only.refl _ w).alloc _;have Hb:=zh (zJn cs mem mb n cap cat inc (h.only ho) (hmem.only ho (by simp)) hP hm hm0 hml hn hn1 hn2 hr c0 c1 i0 i1);have he:=ZA w (.cells #[.int .i64 0] 32);have He:=zh he;have hPw:wP.heap.size≤w.heap.size:=by
  rcases h.run with ⟨-,ov,e,-,h2,-⟩|⟨-,d,-,h2,-⟩
  ·exact h2.only.size
  ·exact h2.size
 clear h hmem hm hm0 hml hn hr ho he
 go_enter_defers Tryz.func224,Tryz.ntmps224
 go_wp2_with fail
 refine Hb.out.mono ?_;rintro r w1 ⟨rfl,g1,g2,g3⟩;have M1:=zh g1;have K1:=zh g2;have he1:=g3 _ _ He.out;have ce:=zA he1 0;have ze:=ZB he1 0;have He1:=zh he1;clear g1 g2 g3 he1;go_wp2;refine leaves_cons (f:=231) (args:=#[.pointer (some ⟨w.heap.size,0,none⟩)]) (by simp) (by simp [go_sem]) ?_;refine (zK7 _ _).mono ?_;rintro e u' w'' ⟨rfl,rfl,rfl⟩;have f1:=zB (i:=0) (.int .i64 0) He1.out;have cell:(w1.setCell ⟨w.heap.size,0,none⟩ (.int .i64 0)).cell? ⟨w.heap.size,0,none⟩=some (.int .i64 0):=by rw [zA f1];rfl
 have M2:MemAt (w1.setCell ⟨w.heap.size,0,none⟩ (.int .i64 0)) mb n cs:=by
  obtain ⟨cur,k1,k2⟩:=M1.out;exact ⟨cur,zC _ k1 (ZC k1 He1.out (by decide)),k2⟩
 have K2:=K1.out.pastE (w':=w1.setCell ⟨w.heap.size,0,none⟩ (.int .i64 0)) ((Only.refl [w.heap.size] w1).setCell (.inl (by simp)) _) hPw He1.out;generalize w1.setCell ⟨w.heap.size,0,none⟩ (.int .i64 0)=w2 at*;simp [Leaves,settle,results,Tryz.results224,go_sem,cell];exact ⟨M2,K2⟩
theorem zC3 (n:Int) (w:World):Calls Tryz.prog 225 #[.int .i64 n] w fun r w'=>r=.returned (.bool (zEp n))∧w=w':=by
 go_enter Tryz.func225,Tryz.ntmps225
 by_cases h4:n=4
 ·subst h4;go_wp2;go_ret;exact ⟨rfl,rfl⟩
 ·have b4:(n==4)=false:=by simp [h4]
  by_cases h15:n=15
  ·subst h15;go_wp2;go_ret;exact ⟨rfl,rfl⟩
  ·have b15:(n==15)=false:=by simp [h15]
   by_cases h16:n=16
   ·subst h16;go_wp2;go_ret;exact ⟨rfl,rfl⟩
   ·have b16:(n==16)=false:=by simp [h16]
    have hs:Hid (zEp n=false):=zh (decide_eq_false (by omega));clear h4 h15 h16;go_wp2;go_ret;exact ⟨zB2 hs.out.symm,rfl⟩
theorem zGU (n cat inc:Int) (w:World):Calls Tryz.prog 223 #[.int .i64 n,.int .i64 cat,.int .i64 inc] w fun r w'=>r=.returned (.int .i64 (zE2 (zGr n cat inc)))∧w=w':=by
 cases hs:zEp n with
 |false=>
  have hm:zGr n cat inc=false:=by unfold zGr;rw [hs];rfl
  rw [hm];have Hs:=zh hs;clear hs hm
  go_enter Tryz.func223,Tryz.ntmps223
  go_wp2_with fail
  refine (zC3 n w).mono ?_;rintro r w1 ⟨rfl,rfl⟩;rw [Hs.out];go_wp2;go_ret;exact ⟨rfl,rfl⟩
 |true=>
  have Hs:=zh hs;have hcases:(0≤cat∧cat≤3∧0≤inc∧inc≤1)∨cat<0∨(0≤cat∧3<cat)∨(0≤cat∧cat≤3∧inc<0)∨(0≤cat∧cat≤3∧0≤inc∧1<inc):=by omega
  rcases hcases with ⟨h1,h2,h3,h4⟩|h1|⟨h1,h2⟩|⟨h1,h2,h3⟩|⟨h1,h2,h3,h4⟩
  ·have hm:zGr n cat inc=true:=by unfold zGr;rw [hs,decide_eq_true ⟨h1,h2,h3,h4⟩];rfl
   rw [hm];clear hs hm
   go_enter Tryz.func223,Tryz.ntmps223
   go_wp2_with fail
   refine (zC3 n w).mono ?_;rintro r w1 ⟨rfl,rfl⟩;rw [Hs.out];go_wp2;go_ret;exact ⟨rfl,rfl⟩
  all_goals
   have hm:zGr n cat inc=false:=by unfold zGr;rw [hs,decide_eq_false (by omega)];rfl
   rw [hm];clear hs hm
   go_enter Tryz.func223,Tryz.ntmps223
   go_wp2_with fail
   refine (zC3 n w).mono ?_;rintro r w1 ⟨rfl,rfl⟩;rw [Hs.out];go_wp2;go_ret;exact ⟨rfl,rfl⟩
theorem zMR {w0 w:World} {b tb sb:Nat} {d d':Dec} (h:DecAt w0 w b tb sb d) (cs:List Int) (cat inc:Int) (hm:zGr cs.length cat inc=true) (hr:rangeB cs=true) (hg:d.gives (zZ cs cat inc) d') (hs:d.s.size≤140737488355328) (hst:d.st.length=256):
 Calls Tryz.prog 264 #[.pointer (some ⟨b,0,none⟩),.int .i64 cs.length,.int .i64 cat,.int .i64 inc] w fun r w'=>∃ g cap,r=.returned (.tuple #[.slice (some ⟨g,0,none⟩) cs.length cap,.int .i64 0])∧IntSlice w' (.slice (some ⟨g,0,none⟩) cs.length cap) cs∧DecAt w0 w' b tb sb d'∧Only [b,sb] w w':=by
 obtain ⟨hsz,m1,m2,m3,m4⟩:=zAe hm;obtain ⟨n,hn⟩:∃ n,n=cs.length:=⟨_,rfl⟩;rw [←hn] at hm hsz ⊢;have H:=zh h;have Hm:=zh hm;have Hr:=zh (zCN hr);have Hn:=zh hn;have Hg:=zh (show d.gives (zZ cs cat inc++[]) d' by rw [List.append_nil];exact hg);have Hst:=zh hst;have hn16:4≤n∧n≤16:=by omega
 obtain ⟨hn4,hn16⟩:=hn16;have hls:=lt_of_block h.is.sts;clear h hm hr hn hg hst hsz
 go_enter Tryz.func264,Tryz.ntmps264
 go_wp2_with fail
 refine (zGU n cat inc w).mono ?_;rintro r w1 ⟨rfl,rfl⟩;rw [Hm.out,show zE2 true=0 from rfl]
 go_wp2_with (refine zCG rfl _ _ rfl zEQ rfl n rfl rfl rfl rfl (by decide) (by omega) ?_)
 intro w2 hc2 ho2 hz2;have C2:=zh hc2;have O2:=zh ho2;have H2:=zh (H.out.only ho2 (by simp) (by simp) (by simp) (by simp));clear hc2 ho2
 go_wp2_with fail
 refine (zB7 b tb sb d w2 H2.out.is).mono ?_;rintro r w3 ⟨⟨k0,k1,k2,k3,rfl⟩,ho3⟩;have C3:=zh (ho3.heap C2.out (by simp));have O3:=zh (O2.out.trans ho3);have H3:=zh (H2.out.only ho3 (by simp) (by simp) (by simp) (by simp));clear ho3
 go_wp2_with fail
 refine (H3.out.states (by rw [Hst.out];omega)).mono ?_;rintro r w4 ⟨v4,rfl,-,h4,ho4⟩;have C4:=zh (ho4.heap C3.out (by simp));have O4:=zh (O3.out.trans ho4);have H4:=zh h4;clear h4 ho4
 go_wp2_with fail
 have oC:Only [] w4 ((w4.alloc (.cells #[.int .i64 k0,.int .i64 k1,.int .i64 k2,.bool k3] 340)).alloc (.cells #[.pointer none,.pointer (some ⟨b,0,none⟩)] 321)):=((Only.refl [] w4).alloc _).alloc _;have hck:((w4.alloc (.cells #[.int .i64 k0,.int .i64 k1,.int .i64 k2,.bool k3] 340)).alloc (.cells #[.pointer none,.pointer (some ⟨b,0,none⟩)] 321)).heap[w4.heap.size+1]? =some (.cells (zCk false b) 321 (0,0)):=by
  have:=ZA (w4.alloc (.cells #[.int .i64 k0,.int .i64 k1,.int .i64 k2,.bool k3] 340)) (.cells #[.pointer none,.pointer (some ⟨b,0,none⟩)] 321)
  simpa [zCk] using this
 have hz4:=O4.out.size;have K5:Hid (Coding w0 w _ false (w4.heap.size+1) b tb sb (.slice none 0 0) (Enc.new []) d' (zZ cs cat inc++[])):=zh
  ⟨hck,H.out.on.size,by omega,hls,.inr ⟨rfl,d,H4.out.only oC (by simp) (by simp) (by simp) (by simp),(O4.out.trans oC).mono (by simp),hs,Hg.out⟩⟩
 have M5:Hid (MemAt _ w.heap.size n (List.replicate n 0)):=zh (by
  have h1:=oC.heap C4.out (by simp);rw [zAL] at h1;exact ⟨_,h1,fun i hi=>zBh _ _ (by simpa using hi)⟩)
 clear hck oC;refine (zJm cs (List.replicate n 0) w.heap.size n n cat inc K5.out M5.out (Nat.le_refl _) (fun h=>by cases h) (fun _ i=>by simp only [List.getD,List.getElem?_replicate];split<;>rfl) (by simp) Hn.out.symm (by omega) hn16 Hr.out m1 m2 m3 m4).mono ?_;rintro r w6 ⟨rfl,g1,g2⟩;have q:DecAt w0 w6 b tb sb d'∧Only [b,sb] w w6:=by
  rcases g2.run with ⟨h,-⟩|⟨-,d6,h1,h2,-,h4⟩
  ·cases h
  ·rw [show d'=d6 from h4];exact ⟨h1,h2⟩
 have Q:=zh q;have I6:Hid (IntSlice w6 (.slice (some ⟨w.heap.size,0,none⟩) n n) cs):=zh (by
  have hnn:=Hn.out;subst hnn;exact ⟨_,_,rfl,.inr ⟨_,0,rfl,fun i hi=>by rw [Nat.zero_add];exact g1.cell i hi⟩⟩)
 clear q g1 g2;go_wp2;go_ret2;exact ⟨_,_,rfl,I6.out,Q.out.1,Q.out.2⟩
end Go.Proofs.YtcppbdlmcbjmeaaGreatDoor
