/- Lemmas that the law needs, part 35. -/
import Derived.Test.YtcppbdlmcbjmeaaGreatDoorK34
import Derived.Recover
import Derived.Defers
set_option maxHeartbeats 1600000
set_option maxRecDepth 100000
namespace Go.Proofs.YtcppbdlmcbjmeaaGreatDoor
open Go.RowKit
theorem zCh (pt pv pe:Value) (w:World):
 CallsD Tryz.prog 249 #[pt,pv,pe] .returning w fun e u' w'=>e=.returned (.tuple #[])∧u'=.returning∧w'=w:=by
 refine callsD_of_wpS Tryz.func249 rfl fun c₀ cs hu=>?_
 apply wpS_seq
 apply wpS_region
 simp [wpOpsS,go_sem,recoverD,hu,Tryz.ntmps249,Exit.thenS]
 apply wpS_seq
 apply wpS_region
 simp [wpOpsS,go_sem,Exit.thenS];refine wpS_cond (t:=false) (by simp [Act.eval,Array.replicate]) ?_;simp only [Bool.false_eq_true,if_false];refine wpS_of_wp (wp_skip ?_)
 cases c₀
 simp_all [bodyPostS,results,Tryz.results249]
theorem zB7 (b tb sb:Nat) (d:Dec) (w:World) (hd:DecIs w b tb sb d):
 Calls Tryz.prog 248 #[.pointer (some ⟨b,0,none⟩)] w fun r w'=>(∃ k0 k1 k2 k3,r=.returned (.agg #[.int .i64 k0,.int .i64 k1,.int .i64 k2,.bool k3]))∧Only [] w w':=by
 have c3:w.cell? ⟨b,3,none⟩=some (.int .i64 d.pos):=by rw [zA hd.cells];rfl
 have c4:w.cell? ⟨b,4,none⟩=some (.int .i64 d.wid):=by rw [zA hd.cells];rfl
 have c5:w.cell? ⟨b,5,none⟩=some (.int .i64 d.off):=by rw [zA hd.cells];rfl
 have c6:w.cell? ⟨b,6,none⟩=some (.bool d.over):=by rw [zA hd.cells];rfl
 have hlt:=lt_of_block hd.cells;clear hd
 go_enter Tryz.func248,Tryz.ntmps248
 go_wp2
 go_region
 go_wp2;exact bodyPost_ret (v:=.agg #[.int .i64 d.pos,.int .i64 d.wid,.int .i64 d.off,.bool d.over]) (by simp [results,Tryz.results248,go_sem]) rfl ⟨⟨_,_,_,_,rfl⟩,((Only.refl _ _).alloc _).drew⟩
theorem zLU {w0 w:World} {b tb sb:Nat} {d d':Dec} (h:DecAt w0 w b tb sb d) (el inc v most:Int) (hk:zK el=1) (hv:v=0∨v=1) (i0:0≤inc) (i1:inc≤7) (hg:d.gives (Zm el inc 0 [48+v]) d') (hs:d.s.size≤140737488355328):
 Calls Tryz.prog 246 #[.pointer (some ⟨b,0,none⟩),.int .i64 el,.int .i64 inc,.int .i64 most] w fun r w'=>r=.returned (.tuple #[.int .i64 v,.int .i64 0])∧DecAt w0 w' b tb sb d'∧Only [b,sb] w w':=by
 obtain ⟨e0,e1⟩:=zBJ el (by omega);obtain ⟨d1,q1,q2,q3⟩:=zJF hv (zB8 el inc 0 e0 e1 i0).1 hg;obtain rfl:d'=d1:=q3;have Q1:=zh q1;clear q1 q2;have hmf:∀ (fn:Fn) (first cap:Array Value) (w:World),(Instr.makeFunc fn first cap).run Tryz.prog w=.ok (.func fn first cap) w:=fun _ _ _ _=>rfl
 have H:=zh h;have Hk:=zh hk;have Hg:=zh hg;have hlb:=lt_of_block h.is.cells;have hls:=lt_of_block h.is.sts;have hlt:=lt_of_block h.is.tab;clear h hk hg
 go_enter_defers Tryz.func246,Tryz.ntmps246
 go_wp2_with fail
 have ho1:Only [] w ((w.alloc (.cells #[.int .i64 0] 3)).alloc (.cells #[.int .i64 0] 32)):=((Only.refl _ w).alloc _).alloc _;have hv1:((w.alloc (.cells #[.int .i64 0] 3)).alloc (.cells #[.int .i64 0] 32)).heap[w.heap.size]? =some (.cells #[.int .i64 0] 3 (0,0)):=ZE _ (ZA w _);have he1:((w.alloc (.cells #[.int .i64 0] 3)).alloc (.cells #[.int .i64 0] 32)).heap[w.heap.size+1]? =some (.cells #[.int .i64 0] 32 (0,0)):=by
  have:=ZA (w.alloc (.cells #[.int .i64 0] 3)) (.cells #[.int .i64 0] 32)
  simpa using this
 have hs1:((w.alloc (.cells #[.int .i64 0] 3)).alloc (.cells #[.int .i64 0] 32)).heap.size=w.heap.size+1+1:=by simp
 generalize (w.alloc (.cells #[.int .i64 0] 3)).alloc (.cells #[.int .i64 0] 32)=wA at*;have hkk:(wA.alloc (.cells kNew 331)).heap[w.heap.size+1+1]? =some (.cells kNew 331 (0,0)):=by rw [←hs1];exact ZA wA _
 refine (Zt (w.heap.size+1+1) el _ hkk).mono ?_;rintro r w1 ⟨rfl,g1⟩;have ho2:Only [] wA w1:=((Only.refl [] wA).alloc _).trans' g1 (by simp;omega);have Ho2:=zh (ho1.trans ho2);have Hv2:=zh (ho2.heap hv1 (by simp));have He2:=zh (ho2.heap he1 (by simp));have H2:=zh (H.out.only (ho1.trans ho2) (by simp) (by simp) (by simp) (by simp));have hlo2:=ho2.size;rw [hs1] at hlo2;clear g1 ho1 ho2 hv1 he1 hs1 hkk;rw [Hk.out]
 go_wp2_with fail
 refine (zB7 b tb sb d w1 H2.out.is).mono ?_;rintro r w2 ⟨⟨k0,k1,k2,k3,rfl⟩,ho3⟩;have hlo3:=ho3.size;have Ho3:=zh (Ho2.out.trans ho3);have Hv3:=zh (ho3.heap Hv2.out (by simp));have He3:=zh (ho3.heap He2.out (by simp));have H3:=zh (H2.out.only ho3 (by simp) (by simp) (by simp) (by simp));clear ho3
 go_wp2_with fail
 have hoM:Only [] w2 ((w2.alloc (.cells #[.pointer (some ⟨b,0,none⟩),.int .i64 k0,.int .i64 k1,.int .i64 k2,.bool k3,.slice none 0 0,.int .i64 el,.int .i64 inc] 344)).alloc (.cells #[.pointer (some ⟨w2.heap.size,0,none⟩)] 338)):=((Only.refl _ w2).alloc _).alloc _;have htk:((w2.alloc (.cells #[.pointer (some ⟨b,0,none⟩),.int .i64 k0,.int .i64 k1,.int .i64 k2,.bool k3,.slice none 0 0,.int .i64 el,.int .i64 inc] 344)).alloc (.cells #[.pointer (some ⟨w2.heap.size,0,none⟩)] 338)).heap[w2.heap.size]? =some (.cells #[.pointer (some ⟨b,0,none⟩),.int .i64 k0,.int .i64 k1,.int .i64 k2,.bool k3,.slice none 0 0,.int .i64 el,.int .i64 inc] 344 (0,0)):=ZE _ (ZA w2 _)
 have htv:((w2.alloc (.cells #[.pointer (some ⟨b,0,none⟩),.int .i64 k0,.int .i64 k1,.int .i64 k2,.bool k3,.slice none 0 0,.int .i64 el,.int .i64 inc] 344)).alloc (.cells #[.pointer (some ⟨w2.heap.size,0,none⟩)] 338)).heap[w2.heap.size+1]? =some (.cells #[.pointer (some ⟨w2.heap.size,0,none⟩)] 338 (0,0)):=by
  have:=ZA (w2.alloc (.cells #[.pointer (some ⟨b,0,none⟩),.int .i64 k0,.int .i64 k1,.int .i64 k2,.bool k3,.slice none 0 0,.int .i64 el,.int .i64 inc] 344)) (.cells #[.pointer (some ⟨w2.heap.size,0,none⟩)] 338)
  simpa using this
 have hsM:((w2.alloc (.cells #[.pointer (some ⟨b,0,none⟩),.int .i64 k0,.int .i64 k1,.int .i64 k2,.bool k3,.slice none 0 0,.int .i64 el,.int .i64 inc] 344)).alloc (.cells #[.pointer (some ⟨w2.heap.size,0,none⟩)] 338)).heap.size=w2.heap.size+1+1:=by simp
 generalize ((w2.alloc (.cells #[.pointer (some ⟨b,0,none⟩),.int .i64 k0,.int .i64 k1,.int .i64 k2,.bool k3,.slice none 0 0,.int .i64 el,.int .i64 inc] 344)).alloc (.cells #[.pointer (some ⟨w2.heap.size,0,none⟩)] 338))=wM at*;obtain ⟨tk,htkd⟩:∃ t,t=w2.heap.size:=⟨_,rfl⟩;rw [←htkd] at htk htv hsM hlo3 ⊢;clear htkd;have hz0:=H.out.on.size;have HoM:=zh (Ho3.out.trans hoM);have HvM:=zh (hoM.heap Hv3.out (by simp));have HeM:=zh (hoM.heap He3.out (by simp));have T:=zh (show TakeAt w0 wM wM b tb sb tk (.slice none 0 0) 0 el inc (.int .i64 k0) (.int .i64 k1) (.int .i64 k2) (.bool k3) d from
  ⟨H3.out.only hoM (by simp) (by simp) (by simp) (by simp),htk,⟨[],World.ownsRow_nil _ _ _ _⟩,Only.refl _ _,by omega,by omega,by omega,by omega,by omega⟩)
 have Htv:=zh htv;have nv:w.heap.size∉[b,sb,tk]:=by simp;omega
 have ne:w.heap.size+1∉[b,sb,tk]:=by simp;omega
 have nt:tk+1∉[b,sb,tk]:=by simp;omega
 clear hoM htk htv Ho2 Hv2 He2 H2 Ho3 Hv3 He3 H3;refine (zGH T.out Q1.out hs e0 e1 i0 i1 (by omega)).mono ?_;rintro r w3 ⟨rfl,sv,g1⟩;have G1:=zh g1;clear g1;have cv:=zA (G1.out.on.heap HvM.out nv) 0;have zv:=ZB (G1.out.on.heap HvM.out nv) 0;have ce:=zA (G1.out.on.heap HeM.out ne) 0;have ze:=ZB (G1.out.on.heap HeM.out ne) 0;have ct:=zA (G1.out.on.heap Htv.out nt) 0;go_wp2;refine leaves_cons (f:=249) (args:=#[.pointer (some ⟨tk+1,0,none⟩),.pointer (some ⟨w.heap.size,0,none⟩),.pointer (some ⟨w.heap.size+1,0,none⟩)]) (by simp) (by simp [go_sem]) ?_;refine (zCh _ _ _ _).mono ?_;rintro e u' w'' ⟨rfl,rfl,rfl⟩;have f0:=zB (i:=0) (.int .i64 v) (G1.out.on.heap HvM.out nv);have f1:=zB (i:=0) (.int .i64 v) f0;have f2:=zC (b:=w.heap.size+1) (i:=0) (.int .i64 0) f1 (by omega)
 have f3:=zB (i:=0) (.int .i64 0) (zC (b:=w.heap.size) (i:=0) (.int .i64 v) (zC (b:=w.heap.size) (i:=0) (.int .i64 v) (G1.out.on.heap HeM.out ne) (by omega)) (by omega));have o4:Only [w.heap.size,w.heap.size+1] w3 (((w3.setCell ⟨w.heap.size,0,none⟩ (.int .i64 v)).setCell ⟨w.heap.size,0,none⟩ (.int .i64 v)).setCell ⟨w.heap.size+1,0,none⟩ (.int .i64 0)):=(((Only.refl _ w3).setCell (.inl (by simp)) _).setCell (.inl (by simp)) _).setCell (.inl (by simp)) _;generalize ((w3.setCell ⟨w.heap.size,0,none⟩ (.int .i64 v)).setCell ⟨w.heap.size,0,none⟩ (.int .i64 v)).setCell ⟨w.heap.size+1,0,none⟩ (.int .i64 0)=w4 at*;have cv4:w4.cell? ⟨w.heap.size,0,none⟩=some (.int .i64 v):=by rw [zA f2];rfl
 have ce4:w4.cell? ⟨w.heap.size+1,0,none⟩=some (.int .i64 0):=by rw [zA f3];rfl
 have hd4:DecAt w0 w4 b tb sb d':=G1.out.dec.only o4 (by simp;omega) (by simp;omega) (by simp;omega) (by simp;omega);have ho4:Only [b,sb] w w4:=((HoM.out.mono (T:=[b,sb]) (by simp)).trans' G1.out.on (by simp;omega)).trans' o4 (by simp);simp [Leaves,settle,results,Tryz.results246,go_sem,cv4,ce4];exact ⟨hd4,ho4⟩
theorem zKR {w0 w:World} {b tb sb:Nat} {d d':Dec} (h:DecAt w0 w b tb sb d) (el inc:Int) (v l:Nat) (hk:zK el=2) (hvl:v≤l) (hl0:1≤l) (hl1:l≤63) (i0:0≤inc) (i1:inc≤7) (hg:d.gives (Zm el inc 0 (zAj v l)) d') (hs:d.s.size≤140737488355328):
 Calls Tryz.prog 246 #[.pointer (some ⟨b,0,none⟩),.int .i64 el,.int .i64 inc,.int .i64 l] w fun r w'=>r=.returned (.tuple #[.int .i64 v,.int .i64 0])∧DecAt w0 w' b tb sb d'∧Only [b,sb] w w':=by
 obtain ⟨e0,e1⟩:=zBJ el (by omega);rw [←List.append_nil (zAj v l)] at hg;have hmf:∀ (fn:Fn) (first cap:Array Value) (w:World),(Instr.makeFunc fn first cap).run Tryz.prog w=.ok (.func fn first cap) w:=fun _ _ _ _=>rfl
 have H:=zh h;have Hk:=zh hk;have Hg:=zh hg;have hlb:=lt_of_block h.is.cells;have hls:=lt_of_block h.is.sts;have hlt:=lt_of_block h.is.tab;clear h hk hg
 go_enter_defers Tryz.func246,Tryz.ntmps246
 go_wp2_with fail
 have ho1:Only [] w ((w.alloc (.cells #[.int .i64 0] 3)).alloc (.cells #[.int .i64 0] 32)):=((Only.refl _ w).alloc _).alloc _;have hv1:((w.alloc (.cells #[.int .i64 0] 3)).alloc (.cells #[.int .i64 0] 32)).heap[w.heap.size]? =some (.cells #[.int .i64 0] 3 (0,0)):=ZE _ (ZA w _);have he1:((w.alloc (.cells #[.int .i64 0] 3)).alloc (.cells #[.int .i64 0] 32)).heap[w.heap.size+1]? =some (.cells #[.int .i64 0] 32 (0,0)):=by
  have:=ZA (w.alloc (.cells #[.int .i64 0] 3)) (.cells #[.int .i64 0] 32)
  simpa using this
 have hs1:((w.alloc (.cells #[.int .i64 0] 3)).alloc (.cells #[.int .i64 0] 32)).heap.size=w.heap.size+1+1:=by simp
 generalize (w.alloc (.cells #[.int .i64 0] 3)).alloc (.cells #[.int .i64 0] 32)=wA at*;have hkk:(wA.alloc (.cells kNew 331)).heap[w.heap.size+1+1]? =some (.cells kNew 331 (0,0)):=by rw [←hs1];exact ZA wA _
 refine (Zt (w.heap.size+1+1) el _ hkk).mono ?_;rintro r w1 ⟨rfl,g1⟩;have ho2:Only [] wA w1:=((Only.refl [] wA).alloc _).trans' g1 (by simp;omega);have Ho2:=zh (ho1.trans ho2);have Hv2:=zh (ho2.heap hv1 (by simp));have He2:=zh (ho2.heap he1 (by simp));have H2:=zh (H.out.only (ho1.trans ho2) (by simp) (by simp) (by simp) (by simp));have hlo2:=ho2.size;rw [hs1] at hlo2;clear g1 ho1 ho2 hv1 he1 hs1 hkk;rw [Hk.out]
 go_wp2_with fail
 refine (zB7 b tb sb d w1 H2.out.is).mono ?_;rintro r w2 ⟨⟨k0,k1,k2,k3,rfl⟩,ho3⟩;have hlo3:=ho3.size;have Ho3:=zh (Ho2.out.trans ho3);have Hv3:=zh (ho3.heap Hv2.out (by simp));have He3:=zh (ho3.heap He2.out (by simp));have H3:=zh (H2.out.only ho3 (by simp) (by simp) (by simp) (by simp));clear ho3
 go_wp2_with fail
 have hoM:Only [] w2 ((w2.alloc (.cells #[.pointer (some ⟨b,0,none⟩),.int .i64 k0,.int .i64 k1,.int .i64 k2,.bool k3,.slice none 0 0,.int .i64 el,.int .i64 inc] 344)).alloc (.cells #[.pointer (some ⟨w2.heap.size,0,none⟩)] 338)):=((Only.refl _ w2).alloc _).alloc _;have htk:((w2.alloc (.cells #[.pointer (some ⟨b,0,none⟩),.int .i64 k0,.int .i64 k1,.int .i64 k2,.bool k3,.slice none 0 0,.int .i64 el,.int .i64 inc] 344)).alloc (.cells #[.pointer (some ⟨w2.heap.size,0,none⟩)] 338)).heap[w2.heap.size]? =some (.cells #[.pointer (some ⟨b,0,none⟩),.int .i64 k0,.int .i64 k1,.int .i64 k2,.bool k3,.slice none 0 0,.int .i64 el,.int .i64 inc] 344 (0,0)):=ZE _ (ZA w2 _)
 have htv:((w2.alloc (.cells #[.pointer (some ⟨b,0,none⟩),.int .i64 k0,.int .i64 k1,.int .i64 k2,.bool k3,.slice none 0 0,.int .i64 el,.int .i64 inc] 344)).alloc (.cells #[.pointer (some ⟨w2.heap.size,0,none⟩)] 338)).heap[w2.heap.size+1]? =some (.cells #[.pointer (some ⟨w2.heap.size,0,none⟩)] 338 (0,0)):=by
  have:=ZA (w2.alloc (.cells #[.pointer (some ⟨b,0,none⟩),.int .i64 k0,.int .i64 k1,.int .i64 k2,.bool k3,.slice none 0 0,.int .i64 el,.int .i64 inc] 344)) (.cells #[.pointer (some ⟨w2.heap.size,0,none⟩)] 338)
  simpa using this
 have hsM:((w2.alloc (.cells #[.pointer (some ⟨b,0,none⟩),.int .i64 k0,.int .i64 k1,.int .i64 k2,.bool k3,.slice none 0 0,.int .i64 el,.int .i64 inc] 344)).alloc (.cells #[.pointer (some ⟨w2.heap.size,0,none⟩)] 338)).heap.size=w2.heap.size+1+1:=by simp
 generalize ((w2.alloc (.cells #[.pointer (some ⟨b,0,none⟩),.int .i64 k0,.int .i64 k1,.int .i64 k2,.bool k3,.slice none 0 0,.int .i64 el,.int .i64 inc] 344)).alloc (.cells #[.pointer (some ⟨w2.heap.size,0,none⟩)] 338))=wM at*;obtain ⟨tk,htkd⟩:∃ t,t=w2.heap.size:=⟨_,rfl⟩;rw [←htkd] at htk htv hsM hlo3 ⊢;clear htkd;have hz0:=H.out.on.size;have HoM:=zh (Ho3.out.trans hoM);have HvM:=zh (hoM.heap Hv3.out (by simp));have HeM:=zh (hoM.heap He3.out (by simp));have T:=zh (show TakeAt w0 wM wM b tb sb tk (.slice none 0 0) 0 el inc (.int .i64 k0) (.int .i64 k1) (.int .i64 k2) (.bool k3) d from
  ⟨H3.out.only hoM (by simp) (by simp) (by simp) (by simp),htk,⟨[],World.ownsRow_nil _ _ _ _⟩,Only.refl _ _,by omega,by omega,by omega,by omega,by omega⟩)
 have Htv:=zh htv;have nv:w.heap.size∉[b,sb,tk]:=by simp;omega
 have ne:w.heap.size+1∉[b,sb,tk]:=by simp;omega
 have nt:tk+1∉[b,sb,tk]:=by simp;omega
 clear hoM htk htv Ho2 Hv2 He2 H2 Ho3 Hv3 He3 H3;refine (zGw v l [] T.out hvl (by omega) Hg.out hs e0 e1 i0 i1).mono ?_;rintro r w3 ⟨rfl,sv,n1,d1,g1,g2,-⟩;obtain rfl:d'=d1:=g2;have G1:=zh g1;clear g1;have cv:=zA (G1.out.on.heap HvM.out nv) 0;have zv:=ZB (G1.out.on.heap HvM.out nv) 0;have ce:=zA (G1.out.on.heap HeM.out ne) 0;have ze:=ZB (G1.out.on.heap HeM.out ne) 0;have ct:=zA (G1.out.on.heap Htv.out nt) 0;go_wp2;refine leaves_cons (f:=249) (args:=#[.pointer (some ⟨tk+1,0,none⟩),.pointer (some ⟨w.heap.size,0,none⟩),.pointer (some ⟨w.heap.size+1,0,none⟩)]) (by simp) (by simp [go_sem]) ?_;refine (zCh _ _ _ _).mono ?_;rintro e u' w'' ⟨rfl,rfl,rfl⟩;have f0:=zB (i:=0) (.int .i64 v) (G1.out.on.heap HvM.out nv);have f1:=zB (i:=0) (.int .i64 v) f0;have f2:=zC (b:=w.heap.size+1) (i:=0) (.int .i64 0) f1 (by omega)
 have f3:=zB (i:=0) (.int .i64 0) (zC (b:=w.heap.size) (i:=0) (.int .i64 v) (zC (b:=w.heap.size) (i:=0) (.int .i64 v) (G1.out.on.heap HeM.out ne) (by omega)) (by omega));have o4:Only [w.heap.size,w.heap.size+1] w3 (((w3.setCell ⟨w.heap.size,0,none⟩ (.int .i64 v)).setCell ⟨w.heap.size,0,none⟩ (.int .i64 v)).setCell ⟨w.heap.size+1,0,none⟩ (.int .i64 0)):=(((Only.refl _ w3).setCell (.inl (by simp)) _).setCell (.inl (by simp)) _).setCell (.inl (by simp)) _;generalize ((w3.setCell ⟨w.heap.size,0,none⟩ (.int .i64 v)).setCell ⟨w.heap.size,0,none⟩ (.int .i64 v)).setCell ⟨w.heap.size+1,0,none⟩ (.int .i64 0)=w4 at*;have cv4:w4.cell? ⟨w.heap.size,0,none⟩=some (.int .i64 v):=by rw [zA f2];rfl
 have ce4:w4.cell? ⟨w.heap.size+1,0,none⟩=some (.int .i64 0):=by rw [zA f3];rfl
 have hd4:DecAt w0 w4 b tb sb d':=G1.out.dec.only o4 (by simp;omega) (by simp;omega) (by simp;omega) (by simp;omega);have ho4:Only [b,sb] w w4:=((HoM.out.mono (T:=[b,sb]) (by simp)).trans' G1.out.on (by simp;omega)).trans' o4 (by simp);simp [Leaves,settle,results,Tryz.results246,go_sem,cv4,ce4];exact ⟨hd4,ho4⟩
theorem zKS {w0 w:World} {b tb sb:Nat} {d d':Dec} (h:DecAt w0 w b tb sb d) (el inc most:Int) (v:Nat) (hk:zK el=4) (hvl:v≤65535) (i0:0≤inc) (i1:inc≤7) (hg:d.gives (Zm el inc 0 (Zk v 14 0)) d') (hs:d.s.size≤140737488355328):
 Calls Tryz.prog 246 #[.pointer (some ⟨b,0,none⟩),.int .i64 el,.int .i64 inc,.int .i64 most] w fun r w'=>r=.returned (.tuple #[.int .i64 v,.int .i64 0])∧DecAt w0 w' b tb sb d'∧Only [b,sb] w w':=by
 obtain ⟨e0,e1⟩:=zBJ el (by omega);rw [←List.append_nil (Zk v 14 0)] at hg;have hmf:∀ (fn:Fn) (first cap:Array Value) (w:World),(Instr.makeFunc fn first cap).run Tryz.prog w=.ok (.func fn first cap) w:=fun _ _ _ _=>rfl
 have H:=zh h;have Hk:=zh hk;have Hg:=zh hg;have hlb:=lt_of_block h.is.cells;have hls:=lt_of_block h.is.sts;have hlt:=lt_of_block h.is.tab;clear h hk hg
 go_enter_defers Tryz.func246,Tryz.ntmps246
 go_wp2_with fail
 have ho1:Only [] w ((w.alloc (.cells #[.int .i64 0] 3)).alloc (.cells #[.int .i64 0] 32)):=((Only.refl _ w).alloc _).alloc _;have hv1:((w.alloc (.cells #[.int .i64 0] 3)).alloc (.cells #[.int .i64 0] 32)).heap[w.heap.size]? =some (.cells #[.int .i64 0] 3 (0,0)):=ZE _ (ZA w _);have he1:((w.alloc (.cells #[.int .i64 0] 3)).alloc (.cells #[.int .i64 0] 32)).heap[w.heap.size+1]? =some (.cells #[.int .i64 0] 32 (0,0)):=by
  have:=ZA (w.alloc (.cells #[.int .i64 0] 3)) (.cells #[.int .i64 0] 32)
  simpa using this
 have hs1:((w.alloc (.cells #[.int .i64 0] 3)).alloc (.cells #[.int .i64 0] 32)).heap.size=w.heap.size+1+1:=by simp
 generalize (w.alloc (.cells #[.int .i64 0] 3)).alloc (.cells #[.int .i64 0] 32)=wA at*;have hkk:(wA.alloc (.cells kNew 331)).heap[w.heap.size+1+1]? =some (.cells kNew 331 (0,0)):=by rw [←hs1];exact ZA wA _
 refine (Zt (w.heap.size+1+1) el _ hkk).mono ?_;rintro r w1 ⟨rfl,g1⟩;have ho2:Only [] wA w1:=((Only.refl [] wA).alloc _).trans' g1 (by simp;omega);have Ho2:=zh (ho1.trans ho2);have Hv2:=zh (ho2.heap hv1 (by simp));have He2:=zh (ho2.heap he1 (by simp));have H2:=zh (H.out.only (ho1.trans ho2) (by simp) (by simp) (by simp) (by simp));have hlo2:=ho2.size;rw [hs1] at hlo2;clear g1 ho1 ho2 hv1 he1 hs1 hkk;rw [Hk.out]
 go_wp2_with fail
 refine (zB7 b tb sb d w1 H2.out.is).mono ?_;rintro r w2 ⟨⟨k0,k1,k2,k3,rfl⟩,ho3⟩;have hlo3:=ho3.size;have Ho3:=zh (Ho2.out.trans ho3);have Hv3:=zh (ho3.heap Hv2.out (by simp));have He3:=zh (ho3.heap He2.out (by simp));have H3:=zh (H2.out.only ho3 (by simp) (by simp) (by simp) (by simp));clear ho3
 go_wp2_with fail
 have hoM:Only [] w2 ((w2.alloc (.cells #[.pointer (some ⟨b,0,none⟩),.int .i64 k0,.int .i64 k1,.int .i64 k2,.bool k3,.slice none 0 0,.int .i64 el,.int .i64 inc] 344)).alloc (.cells #[.pointer (some ⟨w2.heap.size,0,none⟩)] 338)):=((Only.refl _ w2).alloc _).alloc _;have htk:((w2.alloc (.cells #[.pointer (some ⟨b,0,none⟩),.int .i64 k0,.int .i64 k1,.int .i64 k2,.bool k3,.slice none 0 0,.int .i64 el,.int .i64 inc] 344)).alloc (.cells #[.pointer (some ⟨w2.heap.size,0,none⟩)] 338)).heap[w2.heap.size]? =some (.cells #[.pointer (some ⟨b,0,none⟩),.int .i64 k0,.int .i64 k1,.int .i64 k2,.bool k3,.slice none 0 0,.int .i64 el,.int .i64 inc] 344 (0,0)):=ZE _ (ZA w2 _)
 have htv:((w2.alloc (.cells #[.pointer (some ⟨b,0,none⟩),.int .i64 k0,.int .i64 k1,.int .i64 k2,.bool k3,.slice none 0 0,.int .i64 el,.int .i64 inc] 344)).alloc (.cells #[.pointer (some ⟨w2.heap.size,0,none⟩)] 338)).heap[w2.heap.size+1]? =some (.cells #[.pointer (some ⟨w2.heap.size,0,none⟩)] 338 (0,0)):=by
  have:=ZA (w2.alloc (.cells #[.pointer (some ⟨b,0,none⟩),.int .i64 k0,.int .i64 k1,.int .i64 k2,.bool k3,.slice none 0 0,.int .i64 el,.int .i64 inc] 344)) (.cells #[.pointer (some ⟨w2.heap.size,0,none⟩)] 338)
  simpa using this
 have hsM:((w2.alloc (.cells #[.pointer (some ⟨b,0,none⟩),.int .i64 k0,.int .i64 k1,.int .i64 k2,.bool k3,.slice none 0 0,.int .i64 el,.int .i64 inc] 344)).alloc (.cells #[.pointer (some ⟨w2.heap.size,0,none⟩)] 338)).heap.size=w2.heap.size+1+1:=by simp
 generalize ((w2.alloc (.cells #[.pointer (some ⟨b,0,none⟩),.int .i64 k0,.int .i64 k1,.int .i64 k2,.bool k3,.slice none 0 0,.int .i64 el,.int .i64 inc] 344)).alloc (.cells #[.pointer (some ⟨w2.heap.size,0,none⟩)] 338))=wM at*;obtain ⟨tk,htkd⟩:∃ t,t=w2.heap.size:=⟨_,rfl⟩;rw [←htkd] at htk htv hsM hlo3 ⊢;clear htkd;have hz0:=H.out.on.size;have HoM:=zh (Ho3.out.trans hoM);have HvM:=zh (hoM.heap Hv3.out (by simp));have HeM:=zh (hoM.heap He3.out (by simp));have T:=zh (show TakeAt w0 wM wM b tb sb tk (.slice none 0 0) 0 el inc (.int .i64 k0) (.int .i64 k1) (.int .i64 k2) (.bool k3) d from
  ⟨H3.out.only hoM (by simp) (by simp) (by simp) (by simp),htk,⟨[],World.ownsRow_nil _ _ _ _⟩,Only.refl _ _,by omega,by omega,by omega,by omega,by omega⟩)
 have Htv:=zh htv;have nv:w.heap.size∉[b,sb,tk]:=by simp;omega
 have ne:w.heap.size+1∉[b,sb,tk]:=by simp;omega
 have nt:tk+1∉[b,sb,tk]:=by simp;omega
 clear hoM htk htv Ho2 Hv2 He2 H2 Ho3 Hv3 He3 H3;refine (zCd v 14 0 65535 [] T.out hvl (by omega) (by omega) (by omega) (by omega) Hg.out hs e0 e1 i0 i1).mono ?_;rintro r w3 ⟨rfl,sv,n1,d1,g1,g2,-⟩;obtain rfl:d'=d1:=g2;have G1:=zh g1;clear g1;have cv:=zA (G1.out.on.heap HvM.out nv) 0;have zv:=ZB (G1.out.on.heap HvM.out nv) 0;have ce:=zA (G1.out.on.heap HeM.out ne) 0;have ze:=ZB (G1.out.on.heap HeM.out ne) 0;have ct:=zA (G1.out.on.heap Htv.out nt) 0;go_wp2;refine leaves_cons (f:=249) (args:=#[.pointer (some ⟨tk+1,0,none⟩),.pointer (some ⟨w.heap.size,0,none⟩),.pointer (some ⟨w.heap.size+1,0,none⟩)]) (by simp) (by simp [go_sem]) ?_;refine (zCh _ _ _ _).mono ?_;rintro e u' w'' ⟨rfl,rfl,rfl⟩;have f0:=zB (i:=0) (.int .i64 v) (G1.out.on.heap HvM.out nv);have f1:=zB (i:=0) (.int .i64 v) f0;have f2:=zC (b:=w.heap.size+1) (i:=0) (.int .i64 0) f1 (by omega)
 have f3:=zB (i:=0) (.int .i64 0) (zC (b:=w.heap.size) (i:=0) (.int .i64 v) (zC (b:=w.heap.size) (i:=0) (.int .i64 v) (G1.out.on.heap HeM.out ne) (by omega)) (by omega));have o4:Only [w.heap.size,w.heap.size+1] w3 (((w3.setCell ⟨w.heap.size,0,none⟩ (.int .i64 v)).setCell ⟨w.heap.size,0,none⟩ (.int .i64 v)).setCell ⟨w.heap.size+1,0,none⟩ (.int .i64 0)):=(((Only.refl _ w3).setCell (.inl (by simp)) _).setCell (.inl (by simp)) _).setCell (.inl (by simp)) _;generalize ((w3.setCell ⟨w.heap.size,0,none⟩ (.int .i64 v)).setCell ⟨w.heap.size,0,none⟩ (.int .i64 v)).setCell ⟨w.heap.size+1,0,none⟩ (.int .i64 0)=w4 at*;have cv4:w4.cell? ⟨w.heap.size,0,none⟩=some (.int .i64 v):=by rw [zA f2];rfl
 have ce4:w4.cell? ⟨w.heap.size+1,0,none⟩=some (.int .i64 0):=by rw [zA f3];rfl
 have hd4:DecAt w0 w4 b tb sb d':=G1.out.dec.only o4 (by simp;omega) (by simp;omega) (by simp;omega) (by simp;omega);have ho4:Only [b,sb] w w4:=((HoM.out.mono (T:=[b,sb]) (by simp)).trans' G1.out.on (by simp;omega)).trans' o4 (by simp);simp [Leaves,settle,results,Tryz.results246,go_sem,cv4,ce4];exact ⟨hd4,ho4⟩
theorem zLT {w0 w:World} {b tb sb:Nat} {d d':Dec} (h:DecAt w0 w b tb sb d) (el inc most:Int) (hk:zK el=3) (i0:0≤inc) (i1:inc≤7) (hg:d.gives (Zm el inc 0 (Zk 0 9 3++[])) d') (hs:d.s.size≤140737488355328):
 Calls Tryz.prog 246 #[.pointer (some ⟨b,0,none⟩),.int .i64 el,.int .i64 inc,.int .i64 most] w fun r w'=>r=.returned (.tuple #[.int .i64 0,.int .i64 0])∧DecAt w0 w' b tb sb d'∧Only [b,sb] w w':=by
 obtain ⟨e0,e1⟩:=zBJ el (by omega);have hmf:∀ (fn:Fn) (first cap:Array Value) (w:World),(Instr.makeFunc fn first cap).run Tryz.prog w=.ok (.func fn first cap) w:=fun _ _ _ _=>rfl
 have H:=zh h;have Hk:=zh hk;have Hg:=zh hg;have hlb:=lt_of_block h.is.cells;have hls:=lt_of_block h.is.sts;have hlt:=lt_of_block h.is.tab;clear h hk hg
 go_enter_defers Tryz.func246,Tryz.ntmps246
 go_wp2_with fail
 have ho1:Only [] w ((w.alloc (.cells #[.int .i64 0] 3)).alloc (.cells #[.int .i64 0] 32)):=((Only.refl _ w).alloc _).alloc _;have hv1:((w.alloc (.cells #[.int .i64 0] 3)).alloc (.cells #[.int .i64 0] 32)).heap[w.heap.size]? =some (.cells #[.int .i64 0] 3 (0,0)):=ZE _ (ZA w _);have he1:((w.alloc (.cells #[.int .i64 0] 3)).alloc (.cells #[.int .i64 0] 32)).heap[w.heap.size+1]? =some (.cells #[.int .i64 0] 32 (0,0)):=by
  have:=ZA (w.alloc (.cells #[.int .i64 0] 3)) (.cells #[.int .i64 0] 32)
  simpa using this
 have hs1:((w.alloc (.cells #[.int .i64 0] 3)).alloc (.cells #[.int .i64 0] 32)).heap.size=w.heap.size+1+1:=by simp
 generalize (w.alloc (.cells #[.int .i64 0] 3)).alloc (.cells #[.int .i64 0] 32)=wA at*;have hkk:(wA.alloc (.cells kNew 331)).heap[w.heap.size+1+1]? =some (.cells kNew 331 (0,0)):=by rw [←hs1];exact ZA wA _
 refine (Zt (w.heap.size+1+1) el _ hkk).mono ?_;rintro r w1 ⟨rfl,g1⟩;have ho2:Only [] wA w1:=((Only.refl [] wA).alloc _).trans' g1 (by simp;omega);have Ho2:=zh (ho1.trans ho2);have Hv2:=zh (ho2.heap hv1 (by simp));have He2:=zh (ho2.heap he1 (by simp));have H2:=zh (H.out.only (ho1.trans ho2) (by simp) (by simp) (by simp) (by simp));have hlo2:=ho2.size;rw [hs1] at hlo2;clear g1 ho1 ho2 hv1 he1 hs1 hkk;rw [Hk.out]
 go_wp2_with fail
 refine (zB7 b tb sb d w1 H2.out.is).mono ?_;rintro r w2 ⟨⟨k0,k1,k2,k3,rfl⟩,ho3⟩;have hlo3:=ho3.size;have Ho3:=zh (Ho2.out.trans ho3);have Hv3:=zh (ho3.heap Hv2.out (by simp));have He3:=zh (ho3.heap He2.out (by simp));have H3:=zh (H2.out.only ho3 (by simp) (by simp) (by simp) (by simp));clear ho3
 go_wp2_with fail
 have hoM:Only [] w2 ((w2.alloc (.cells #[.pointer (some ⟨b,0,none⟩),.int .i64 k0,.int .i64 k1,.int .i64 k2,.bool k3,.slice none 0 0,.int .i64 el,.int .i64 inc] 344)).alloc (.cells #[.pointer (some ⟨w2.heap.size,0,none⟩)] 338)):=((Only.refl _ w2).alloc _).alloc _;have htk:((w2.alloc (.cells #[.pointer (some ⟨b,0,none⟩),.int .i64 k0,.int .i64 k1,.int .i64 k2,.bool k3,.slice none 0 0,.int .i64 el,.int .i64 inc] 344)).alloc (.cells #[.pointer (some ⟨w2.heap.size,0,none⟩)] 338)).heap[w2.heap.size]? =some (.cells #[.pointer (some ⟨b,0,none⟩),.int .i64 k0,.int .i64 k1,.int .i64 k2,.bool k3,.slice none 0 0,.int .i64 el,.int .i64 inc] 344 (0,0)):=ZE _ (ZA w2 _)
 have htv:((w2.alloc (.cells #[.pointer (some ⟨b,0,none⟩),.int .i64 k0,.int .i64 k1,.int .i64 k2,.bool k3,.slice none 0 0,.int .i64 el,.int .i64 inc] 344)).alloc (.cells #[.pointer (some ⟨w2.heap.size,0,none⟩)] 338)).heap[w2.heap.size+1]? =some (.cells #[.pointer (some ⟨w2.heap.size,0,none⟩)] 338 (0,0)):=by
  have:=ZA (w2.alloc (.cells #[.pointer (some ⟨b,0,none⟩),.int .i64 k0,.int .i64 k1,.int .i64 k2,.bool k3,.slice none 0 0,.int .i64 el,.int .i64 inc] 344)) (.cells #[.pointer (some ⟨w2.heap.size,0,none⟩)] 338)
  simpa using this
 have hsM:((w2.alloc (.cells #[.pointer (some ⟨b,0,none⟩),.int .i64 k0,.int .i64 k1,.int .i64 k2,.bool k3,.slice none 0 0,.int .i64 el,.int .i64 inc] 344)).alloc (.cells #[.pointer (some ⟨w2.heap.size,0,none⟩)] 338)).heap.size=w2.heap.size+1+1:=by simp
 generalize ((w2.alloc (.cells #[.pointer (some ⟨b,0,none⟩),.int .i64 k0,.int .i64 k1,.int .i64 k2,.bool k3,.slice none 0 0,.int .i64 el,.int .i64 inc] 344)).alloc (.cells #[.pointer (some ⟨w2.heap.size,0,none⟩)] 338))=wM at*;obtain ⟨tk,htkd⟩:∃ t,t=w2.heap.size:=⟨_,rfl⟩;rw [←htkd] at htk htv hsM hlo3 ⊢;clear htkd;have hz0:=H.out.on.size;have HoM:=zh (Ho3.out.trans hoM);have HvM:=zh (hoM.heap Hv3.out (by simp));have HeM:=zh (hoM.heap He3.out (by simp));have T:=zh (show TakeAt w0 wM wM b tb sb tk (.slice none 0 0) 0 el inc (.int .i64 k0) (.int .i64 k1) (.int .i64 k2) (.bool k3) d from
  ⟨H3.out.only hoM (by simp) (by simp) (by simp) (by simp),htk,⟨[],World.ownsRow_nil _ _ _ _⟩,Only.refl _ _,by omega,by omega,by omega,by omega,by omega⟩)
 have Htv:=zh htv;have nv:w.heap.size∉[b,sb,tk]:=by simp;omega
 have ne:w.heap.size+1∉[b,sb,tk]:=by simp;omega
 have nt:tk+1∉[b,sb,tk]:=by simp;omega
 clear hoM htk htv Ho2 Hv2 He2 H2 Ho3 Hv3 He3 H3;refine (zCd 0 9 3 32767 [] T.out (by omega) (by omega) (by omega) (by omega) (by omega) Hg.out hs e0 e1 i0 i1).mono ?_;rintro r w3 ⟨rfl,sv,n1,d1,g1,g2,-⟩;obtain rfl:d'=d1:=g2;have G1:=zh g1;clear g1;have cv:=zA (G1.out.on.heap HvM.out nv) 0;have zv:=ZB (G1.out.on.heap HvM.out nv) 0;have ce:=zA (G1.out.on.heap HeM.out ne) 0;have ze:=ZB (G1.out.on.heap HeM.out ne) 0;have ct:=zA (G1.out.on.heap Htv.out nt) 0;go_wp2;refine leaves_cons (f:=249) (args:=#[.pointer (some ⟨tk+1,0,none⟩),.pointer (some ⟨w.heap.size,0,none⟩),.pointer (some ⟨w.heap.size+1,0,none⟩)]) (by simp) (by simp [go_sem]) ?_;refine (zCh _ _ _ _).mono ?_;rintro e u' w'' ⟨rfl,rfl,rfl⟩;have f0:=zB (i:=0) (.int .i64 0) (G1.out.on.heap HvM.out nv);have f1:=zB (i:=0) (.int .i64 0) f0;have f2:=zC (b:=w.heap.size+1) (i:=0) (.int .i64 0) f1 (by omega)
 have f3:=zB (i:=0) (.int .i64 0) (zC (b:=w.heap.size) (i:=0) (.int .i64 0) (zC (b:=w.heap.size) (i:=0) (.int .i64 0) (G1.out.on.heap HeM.out ne) (by omega)) (by omega));have o4:Only [w.heap.size,w.heap.size+1] w3 (((w3.setCell ⟨w.heap.size,0,none⟩ (.int .i64 0)).setCell ⟨w.heap.size,0,none⟩ (.int .i64 0)).setCell ⟨w.heap.size+1,0,none⟩ (.int .i64 0)):=(((Only.refl _ w3).setCell (.inl (by simp)) _).setCell (.inl (by simp)) _).setCell (.inl (by simp)) _;generalize ((w3.setCell ⟨w.heap.size,0,none⟩ (.int .i64 0)).setCell ⟨w.heap.size,0,none⟩ (.int .i64 0)).setCell ⟨w.heap.size+1,0,none⟩ (.int .i64 0)=w4 at*;have cv4:w4.cell? ⟨w.heap.size,0,none⟩=some (.int .i64 0):=by rw [zA f2];rfl
 have ce4:w4.cell? ⟨w.heap.size+1,0,none⟩=some (.int .i64 0):=by rw [zA f3];rfl
 have hd4:DecAt w0 w4 b tb sb d':=G1.out.dec.only o4 (by simp;omega) (by simp;omega) (by simp;omega) (by simp;omega);have ho4:Only [b,sb] w w4:=((HoM.out.mono (T:=[b,sb]) (by simp)).trans' G1.out.on (by simp;omega)).trans' o4 (by simp);simp [Leaves,settle,results,Tryz.results246,go_sem,cv4,ce4];exact ⟨hd4,ho4⟩
theorem zMq {w0 w:World} {b tb sb:Nat} {d d':Dec} (h:DecAt w0 w b tb sb d) (el inc most:Int) (m:Nat) (hk:zK el=3) (hm0:1≤m) (hvl:m≤32767) (i0:0≤inc) (i1:inc≤7) (hg:d.gives (Zm el inc 0 (Zk m 9 3++[97])) d') (hs:d.s.size≤140737488355328):
 Calls Tryz.prog 246 #[.pointer (some ⟨b,0,none⟩),.int .i64 el,.int .i64 inc,.int .i64 most] w fun r w'=>r=.returned (.tuple #[.int .i64 ((m:Int)),.int .i64 0])∧DecAt w0 w' b tb sb d'∧Only [b,sb] w w':=by
 obtain ⟨e0,e1⟩:=zBJ el (by omega);have hmf:∀ (fn:Fn) (first cap:Array Value) (w:World),(Instr.makeFunc fn first cap).run Tryz.prog w=.ok (.func fn first cap) w:=fun _ _ _ _=>rfl
 have H:=zh h;have Hk:=zh hk;have Hg:=zh hg;have hlb:=lt_of_block h.is.cells;have hls:=lt_of_block h.is.sts;have hlt:=lt_of_block h.is.tab;clear h hk hg
 go_enter_defers Tryz.func246,Tryz.ntmps246
 go_wp2_with fail
 have ho1:Only [] w ((w.alloc (.cells #[.int .i64 0] 3)).alloc (.cells #[.int .i64 0] 32)):=((Only.refl _ w).alloc _).alloc _;have hv1:((w.alloc (.cells #[.int .i64 0] 3)).alloc (.cells #[.int .i64 0] 32)).heap[w.heap.size]? =some (.cells #[.int .i64 0] 3 (0,0)):=ZE _ (ZA w _);have he1:((w.alloc (.cells #[.int .i64 0] 3)).alloc (.cells #[.int .i64 0] 32)).heap[w.heap.size+1]? =some (.cells #[.int .i64 0] 32 (0,0)):=by
  have:=ZA (w.alloc (.cells #[.int .i64 0] 3)) (.cells #[.int .i64 0] 32)
  simpa using this
 have hs1:((w.alloc (.cells #[.int .i64 0] 3)).alloc (.cells #[.int .i64 0] 32)).heap.size=w.heap.size+1+1:=by simp
 generalize (w.alloc (.cells #[.int .i64 0] 3)).alloc (.cells #[.int .i64 0] 32)=wA at*;have hkk:(wA.alloc (.cells kNew 331)).heap[w.heap.size+1+1]? =some (.cells kNew 331 (0,0)):=by rw [←hs1];exact ZA wA _
 refine (Zt (w.heap.size+1+1) el _ hkk).mono ?_;rintro r w1 ⟨rfl,g1⟩;have ho2:Only [] wA w1:=((Only.refl [] wA).alloc _).trans' g1 (by simp;omega);have Ho2:=zh (ho1.trans ho2);have Hv2:=zh (ho2.heap hv1 (by simp));have He2:=zh (ho2.heap he1 (by simp));have H2:=zh (H.out.only (ho1.trans ho2) (by simp) (by simp) (by simp) (by simp));have hlo2:=ho2.size;rw [hs1] at hlo2;clear g1 ho1 ho2 hv1 he1 hs1 hkk;rw [Hk.out]
 go_wp2_with fail
 refine (zB7 b tb sb d w1 H2.out.is).mono ?_;rintro r w2 ⟨⟨k0,k1,k2,k3,rfl⟩,ho3⟩;have hlo3:=ho3.size;have Ho3:=zh (Ho2.out.trans ho3);have Hv3:=zh (ho3.heap Hv2.out (by simp));have He3:=zh (ho3.heap He2.out (by simp));have H3:=zh (H2.out.only ho3 (by simp) (by simp) (by simp) (by simp));clear ho3
 go_wp2_with fail
 have hoM:Only [] w2 ((w2.alloc (.cells #[.pointer (some ⟨b,0,none⟩),.int .i64 k0,.int .i64 k1,.int .i64 k2,.bool k3,.slice none 0 0,.int .i64 el,.int .i64 inc] 344)).alloc (.cells #[.pointer (some ⟨w2.heap.size,0,none⟩)] 338)):=((Only.refl _ w2).alloc _).alloc _;have htk:((w2.alloc (.cells #[.pointer (some ⟨b,0,none⟩),.int .i64 k0,.int .i64 k1,.int .i64 k2,.bool k3,.slice none 0 0,.int .i64 el,.int .i64 inc] 344)).alloc (.cells #[.pointer (some ⟨w2.heap.size,0,none⟩)] 338)).heap[w2.heap.size]? =some (.cells #[.pointer (some ⟨b,0,none⟩),.int .i64 k0,.int .i64 k1,.int .i64 k2,.bool k3,.slice none 0 0,.int .i64 el,.int .i64 inc] 344 (0,0)):=ZE _ (ZA w2 _)
 have htv:((w2.alloc (.cells #[.pointer (some ⟨b,0,none⟩),.int .i64 k0,.int .i64 k1,.int .i64 k2,.bool k3,.slice none 0 0,.int .i64 el,.int .i64 inc] 344)).alloc (.cells #[.pointer (some ⟨w2.heap.size,0,none⟩)] 338)).heap[w2.heap.size+1]? =some (.cells #[.pointer (some ⟨w2.heap.size,0,none⟩)] 338 (0,0)):=by
  have:=ZA (w2.alloc (.cells #[.pointer (some ⟨b,0,none⟩),.int .i64 k0,.int .i64 k1,.int .i64 k2,.bool k3,.slice none 0 0,.int .i64 el,.int .i64 inc] 344)) (.cells #[.pointer (some ⟨w2.heap.size,0,none⟩)] 338)
  simpa using this
 have hsM:((w2.alloc (.cells #[.pointer (some ⟨b,0,none⟩),.int .i64 k0,.int .i64 k1,.int .i64 k2,.bool k3,.slice none 0 0,.int .i64 el,.int .i64 inc] 344)).alloc (.cells #[.pointer (some ⟨w2.heap.size,0,none⟩)] 338)).heap.size=w2.heap.size+1+1:=by simp
 generalize ((w2.alloc (.cells #[.pointer (some ⟨b,0,none⟩),.int .i64 k0,.int .i64 k1,.int .i64 k2,.bool k3,.slice none 0 0,.int .i64 el,.int .i64 inc] 344)).alloc (.cells #[.pointer (some ⟨w2.heap.size,0,none⟩)] 338))=wM at*;obtain ⟨tk,htkd⟩:∃ t,t=w2.heap.size:=⟨_,rfl⟩;rw [←htkd] at htk htv hsM hlo3 ⊢;clear htkd;have hz0:=H.out.on.size;have HoM:=zh (Ho3.out.trans hoM);have HvM:=zh (hoM.heap Hv3.out (by simp));have HeM:=zh (hoM.heap He3.out (by simp));have T:=zh (show TakeAt w0 wM wM b tb sb tk (.slice none 0 0) 0 el inc (.int .i64 k0) (.int .i64 k1) (.int .i64 k2) (.bool k3) d from
  ⟨H3.out.only hoM (by simp) (by simp) (by simp) (by simp),htk,⟨[],World.ownsRow_nil _ _ _ _⟩,Only.refl _ _,by omega,by omega,by omega,by omega,by omega⟩)
 have Htv:=zh htv;have nv:w.heap.size∉[b,sb,tk]:=by simp;omega
 have ne:w.heap.size+1∉[b,sb,tk]:=by simp;omega
 have nt:tk+1∉[b,sb,tk]:=by simp;omega
 clear hoM htk htv Ho2 Hv2 He2 H2 Ho3 Hv3 He3 H3;refine (zCd m 9 3 32767 [97] T.out (by omega) (by omega) (by omega) (by omega) (by omega) Hg.out hs e0 e1 i0 i1).mono ?_;rintro r w3 ⟨rfl,sv,n1,d1,g1,g2,g3⟩;obtain ⟨d2,q1,q2,q3⟩:=zDT (by omega) g2;obtain rfl:d'=d2:=q3;have Q1:=zh (show d1.bypass=(0,0,d') from q1);have hs1:Hid (d1.s.size≤140737488355328):=zh (by rw [g3];exact hs);have G1:=zh g1;clear g1 g2 g3 q1 q2;have cv:=zA (G1.out.on.heap HvM.out nv) 0;have zv:=ZB (G1.out.on.heap HvM.out nv) 0;have ce:=zA (G1.out.on.heap HeM.out ne) 0;have ze:=ZB (G1.out.on.heap HeM.out ne) 0;have ct:=zA (G1.out.on.heap Htv.out nt) 0;have oV:Only [w.heap.size] w3 (w3.setCell ⟨w.heap.size,0,none⟩ (.int .i64 m)):=(Only.refl _ w3).setCell (.inl (by simp)) _;have GV:=zh (G1.out.dec.only oV (by simp;omega) (by simp;omega) (by simp;omega) (by simp;omega))
 have ctk:(w3.setCell ⟨w.heap.size,0,none⟩ (.int .i64 m)).cell? ⟨tk,0,none⟩=some (.pointer (some ⟨b,0,none⟩)):=by rw [zA (oV.heap G1.out.cells (by simp;omega))];rfl
 have HvV:=zh (zB (i:=0) (.int .i64 m) (G1.out.on.heap HvM.out nv));have HeV:=zh (oV.heap (G1.out.on.heap HeM.out ne) (by simp));have HtV:=zh (oV.heap (G1.out.on.heap Htv.out nt) (by simp;omega));have Ctk:=zh ctk;have OV:=zh (((HoM.out.mono (T:=[b,sb]) (by simp)).trans' G1.out.on (by simp;omega)).trans' oV (by simp));clear ctk oV
 go_wp2_with fail
 refine (zGG GV.out Ctk.out Q1.out hs1.out).mono ?_;rintro r w4 ⟨rfl,g1,g2⟩;have GX:=zh g1;have HvX:=zh (g2.heap HvV.out (by simp;omega));have HeX:=zh (g2.heap HeV.out (by simp;omega));have HtX:=zh (g2.heap HtV.out (by simp;omega));have OX:=zh (OV.out.trans g2);have cv5:=zA HvX.out 0;have zv5:=ZB HvX.out 0;have ce5:=zA HeX.out 0;have ze5:=ZB HeX.out 0;have ct5:=zA HtX.out 0;clear g1 g2 cv zv ce ze ct;go_wp2;refine leaves_cons (f:=249) (args:=#[.pointer (some ⟨tk+1,0,none⟩),.pointer (some ⟨w.heap.size,0,none⟩),.pointer (some ⟨w.heap.size+1,0,none⟩)]) (by simp) (by simp [go_sem]) ?_;refine (zCh _ _ _ _).mono ?_;rintro e u' w'' ⟨rfl,rfl,rfl⟩;have f1:=zB (i:=0) (.int .i64 ((m:Int))) HvX.out;have f2:=zC (b:=w.heap.size+1) (i:=0) (.int .i64 0) f1 (by omega);have f3:=zB (i:=0) (.int .i64 0) (zC (b:=w.heap.size) (i:=0) (.int .i64 ((m:Int))) HeX.out (by omega))
 have o4:Only [w.heap.size,w.heap.size+1] w4 ((w4.setCell ⟨w.heap.size,0,none⟩ (.int .i64 ((m:Int)))).setCell ⟨w.heap.size+1,0,none⟩ (.int .i64 0)):=((Only.refl _ w4).setCell (.inl (by simp)) _).setCell (.inl (by simp)) _;generalize (w4.setCell ⟨w.heap.size,0,none⟩ (.int .i64 ((m:Int)))).setCell ⟨w.heap.size+1,0,none⟩ (.int .i64 0)=w5 at*;have cv4:w5.cell? ⟨w.heap.size,0,none⟩=some (.int .i64 ((m:Int))):=by rw [zA f2];rfl
 have ce4:w5.cell? ⟨w.heap.size+1,0,none⟩=some (.int .i64 0):=by rw [zA f3];rfl
 have hd4:DecAt w0 w5 b tb sb d':=GX.out.only o4 (by simp;omega) (by simp;omega) (by simp;omega) (by simp;omega);have ho4:Only [b,sb] w w5:=OX.out.trans' o4 (by simp);simp [Leaves,settle,results,Tryz.results246,go_sem,cv4,ce4];exact ⟨hd4,ho4⟩
theorem zMr {w0 w:World} {b tb sb:Nat} {d d':Dec} (h:DecAt w0 w b tb sb d) (el inc most:Int) (m:Nat) (hk:zK el=3) (hm0:1≤m) (hvl:m≤32767) (i0:0≤inc) (i1:inc≤7) (hg:d.gives (Zm el inc 0 (Zk m 9 3++[98])) d') (hs:d.s.size≤140737488355328):
 Calls Tryz.prog 246 #[.pointer (some ⟨b,0,none⟩),.int .i64 el,.int .i64 inc,.int .i64 most] w fun r w'=>r=.returned (.tuple #[.int .i64 (-(m:Int)),.int .i64 0])∧DecAt w0 w' b tb sb d'∧Only [b,sb] w w':=by
 obtain ⟨e0,e1⟩:=zBJ el (by omega);have hmf:∀ (fn:Fn) (first cap:Array Value) (w:World),(Instr.makeFunc fn first cap).run Tryz.prog w=.ok (.func fn first cap) w:=fun _ _ _ _=>rfl
 have H:=zh h;have Hk:=zh hk;have Hg:=zh hg;have hlb:=lt_of_block h.is.cells;have hls:=lt_of_block h.is.sts;have hlt:=lt_of_block h.is.tab;clear h hk hg
 go_enter_defers Tryz.func246,Tryz.ntmps246
 go_wp2_with fail
 have ho1:Only [] w ((w.alloc (.cells #[.int .i64 0] 3)).alloc (.cells #[.int .i64 0] 32)):=((Only.refl _ w).alloc _).alloc _;have hv1:((w.alloc (.cells #[.int .i64 0] 3)).alloc (.cells #[.int .i64 0] 32)).heap[w.heap.size]? =some (.cells #[.int .i64 0] 3 (0,0)):=ZE _ (ZA w _);have he1:((w.alloc (.cells #[.int .i64 0] 3)).alloc (.cells #[.int .i64 0] 32)).heap[w.heap.size+1]? =some (.cells #[.int .i64 0] 32 (0,0)):=by
  have:=ZA (w.alloc (.cells #[.int .i64 0] 3)) (.cells #[.int .i64 0] 32)
  simpa using this
 have hs1:((w.alloc (.cells #[.int .i64 0] 3)).alloc (.cells #[.int .i64 0] 32)).heap.size=w.heap.size+1+1:=by simp
 generalize (w.alloc (.cells #[.int .i64 0] 3)).alloc (.cells #[.int .i64 0] 32)=wA at*;have hkk:(wA.alloc (.cells kNew 331)).heap[w.heap.size+1+1]? =some (.cells kNew 331 (0,0)):=by rw [←hs1];exact ZA wA _
 refine (Zt (w.heap.size+1+1) el _ hkk).mono ?_;rintro r w1 ⟨rfl,g1⟩;have ho2:Only [] wA w1:=((Only.refl [] wA).alloc _).trans' g1 (by simp;omega);have Ho2:=zh (ho1.trans ho2);have Hv2:=zh (ho2.heap hv1 (by simp));have He2:=zh (ho2.heap he1 (by simp));have H2:=zh (H.out.only (ho1.trans ho2) (by simp) (by simp) (by simp) (by simp));have hlo2:=ho2.size;rw [hs1] at hlo2;clear g1 ho1 ho2 hv1 he1 hs1 hkk;rw [Hk.out]
 go_wp2_with fail
 refine (zB7 b tb sb d w1 H2.out.is).mono ?_;rintro r w2 ⟨⟨k0,k1,k2,k3,rfl⟩,ho3⟩;have hlo3:=ho3.size;have Ho3:=zh (Ho2.out.trans ho3);have Hv3:=zh (ho3.heap Hv2.out (by simp));have He3:=zh (ho3.heap He2.out (by simp));have H3:=zh (H2.out.only ho3 (by simp) (by simp) (by simp) (by simp));clear ho3
 go_wp2_with fail
 have hoM:Only [] w2 ((w2.alloc (.cells #[.pointer (some ⟨b,0,none⟩),.int .i64 k0,.int .i64 k1,.int .i64 k2,.bool k3,.slice none 0 0,.int .i64 el,.int .i64 inc] 344)).alloc (.cells #[.pointer (some ⟨w2.heap.size,0,none⟩)] 338)):=((Only.refl _ w2).alloc _).alloc _;have htk:((w2.alloc (.cells #[.pointer (some ⟨b,0,none⟩),.int .i64 k0,.int .i64 k1,.int .i64 k2,.bool k3,.slice none 0 0,.int .i64 el,.int .i64 inc] 344)).alloc (.cells #[.pointer (some ⟨w2.heap.size,0,none⟩)] 338)).heap[w2.heap.size]? =some (.cells #[.pointer (some ⟨b,0,none⟩),.int .i64 k0,.int .i64 k1,.int .i64 k2,.bool k3,.slice none 0 0,.int .i64 el,.int .i64 inc] 344 (0,0)):=ZE _ (ZA w2 _)
 have htv:((w2.alloc (.cells #[.pointer (some ⟨b,0,none⟩),.int .i64 k0,.int .i64 k1,.int .i64 k2,.bool k3,.slice none 0 0,.int .i64 el,.int .i64 inc] 344)).alloc (.cells #[.pointer (some ⟨w2.heap.size,0,none⟩)] 338)).heap[w2.heap.size+1]? =some (.cells #[.pointer (some ⟨w2.heap.size,0,none⟩)] 338 (0,0)):=by
  have:=ZA (w2.alloc (.cells #[.pointer (some ⟨b,0,none⟩),.int .i64 k0,.int .i64 k1,.int .i64 k2,.bool k3,.slice none 0 0,.int .i64 el,.int .i64 inc] 344)) (.cells #[.pointer (some ⟨w2.heap.size,0,none⟩)] 338)
  simpa using this
 have hsM:((w2.alloc (.cells #[.pointer (some ⟨b,0,none⟩),.int .i64 k0,.int .i64 k1,.int .i64 k2,.bool k3,.slice none 0 0,.int .i64 el,.int .i64 inc] 344)).alloc (.cells #[.pointer (some ⟨w2.heap.size,0,none⟩)] 338)).heap.size=w2.heap.size+1+1:=by simp
 generalize ((w2.alloc (.cells #[.pointer (some ⟨b,0,none⟩),.int .i64 k0,.int .i64 k1,.int .i64 k2,.bool k3,.slice none 0 0,.int .i64 el,.int .i64 inc] 344)).alloc (.cells #[.pointer (some ⟨w2.heap.size,0,none⟩)] 338))=wM at*;obtain ⟨tk,htkd⟩:∃ t,t=w2.heap.size:=⟨_,rfl⟩;rw [←htkd] at htk htv hsM hlo3 ⊢;clear htkd;have hz0:=H.out.on.size;have HoM:=zh (Ho3.out.trans hoM);have HvM:=zh (hoM.heap Hv3.out (by simp));have HeM:=zh (hoM.heap He3.out (by simp));have T:=zh (show TakeAt w0 wM wM b tb sb tk (.slice none 0 0) 0 el inc (.int .i64 k0) (.int .i64 k1) (.int .i64 k2) (.bool k3) d from
  ⟨H3.out.only hoM (by simp) (by simp) (by simp) (by simp),htk,⟨[],World.ownsRow_nil _ _ _ _⟩,Only.refl _ _,by omega,by omega,by omega,by omega,by omega⟩)
 have Htv:=zh htv;have nv:w.heap.size∉[b,sb,tk]:=by simp;omega
 have ne:w.heap.size+1∉[b,sb,tk]:=by simp;omega
 have nt:tk+1∉[b,sb,tk]:=by simp;omega
 clear hoM htk htv Ho2 Hv2 He2 H2 Ho3 Hv3 He3 H3;refine (zCd m 9 3 32767 [98] T.out (by omega) (by omega) (by omega) (by omega) (by omega) Hg.out hs e0 e1 i0 i1).mono ?_;rintro r w3 ⟨rfl,sv,n1,d1,g1,g2,g3⟩;obtain ⟨d2,q1,q2,q3⟩:=zDT (by omega) g2;obtain rfl:d'=d2:=q3;have Q1:=zh (show d1.bypass=(1,0,d') from q1);have hs1:Hid (d1.s.size≤140737488355328):=zh (by rw [g3];exact hs);have G1:=zh g1;clear g1 g2 g3 q1 q2;have cv:=zA (G1.out.on.heap HvM.out nv) 0;have zv:=ZB (G1.out.on.heap HvM.out nv) 0;have ce:=zA (G1.out.on.heap HeM.out ne) 0;have ze:=ZB (G1.out.on.heap HeM.out ne) 0;have ct:=zA (G1.out.on.heap Htv.out nt) 0;have oV:Only [w.heap.size] w3 (w3.setCell ⟨w.heap.size,0,none⟩ (.int .i64 m)):=(Only.refl _ w3).setCell (.inl (by simp)) _;have GV:=zh (G1.out.dec.only oV (by simp;omega) (by simp;omega) (by simp;omega) (by simp;omega))
 have ctk:(w3.setCell ⟨w.heap.size,0,none⟩ (.int .i64 m)).cell? ⟨tk,0,none⟩=some (.pointer (some ⟨b,0,none⟩)):=by rw [zA (oV.heap G1.out.cells (by simp;omega))];rfl
 have HvV:=zh (zB (i:=0) (.int .i64 m) (G1.out.on.heap HvM.out nv));have HeV:=zh (oV.heap (G1.out.on.heap HeM.out ne) (by simp));have HtV:=zh (oV.heap (G1.out.on.heap Htv.out nt) (by simp;omega));have Ctk:=zh ctk;have OV:=zh (((HoM.out.mono (T:=[b,sb]) (by simp)).trans' G1.out.on (by simp;omega)).trans' oV (by simp));clear ctk oV
 go_wp2_with fail
 refine (zGG GV.out Ctk.out Q1.out hs1.out).mono ?_;rintro r w4 ⟨rfl,g1,g2⟩;have GX:=zh g1;have HvX:=zh (g2.heap HvV.out (by simp;omega));have HeX:=zh (g2.heap HeV.out (by simp;omega));have HtX:=zh (g2.heap HtV.out (by simp;omega));have OX:=zh (OV.out.trans g2);have cv5:=zA HvX.out 0;have zv5:=ZB HvX.out 0;have ce5:=zA HeX.out 0;have ze5:=ZB HeX.out 0;have ct5:=zA HtX.out 0;clear g1 g2 cv zv ce ze ct;go_wp2;refine leaves_cons (f:=249) (args:=#[.pointer (some ⟨tk+1,0,none⟩),.pointer (some ⟨w.heap.size,0,none⟩),.pointer (some ⟨w.heap.size+1,0,none⟩)]) (by simp) (by simp [go_sem]) ?_;refine (zCh _ _ _ _).mono ?_;rintro e u' w'' ⟨rfl,rfl,rfl⟩;have f1:=zB (i:=0) (.int .i64 (-(m:Int))) HvX.out;have f1:=zB (i:=0) (.int .i64 (-(m:Int))) f1;have f2:=zC (b:=w.heap.size+1) (i:=0) (.int .i64 0) f1 (by omega)
 have f3:=zB (i:=0) (.int .i64 0) (zC (b:=w.heap.size) (i:=0) (.int .i64 (-(m:Int))) (zC (b:=w.heap.size) (i:=0) (.int .i64 (-(m:Int))) HeX.out (by omega)) (by omega));have o4:Only [w.heap.size,w.heap.size+1] w4 (((w4.setCell ⟨w.heap.size,0,none⟩ (.int .i64 (-(m:Int)))).setCell ⟨w.heap.size,0,none⟩ (.int .i64 (-(m:Int)))).setCell ⟨w.heap.size+1,0,none⟩ (.int .i64 0)):=(((Only.refl _ w4).setCell (.inl (by simp)) _).setCell (.inl (by simp)) _).setCell (.inl (by simp)) _;generalize ((w4.setCell ⟨w.heap.size,0,none⟩ (.int .i64 (-(m:Int)))).setCell ⟨w.heap.size,0,none⟩ (.int .i64 (-(m:Int)))).setCell ⟨w.heap.size+1,0,none⟩ (.int .i64 0)=w5 at*;have cv4:w5.cell? ⟨w.heap.size,0,none⟩=some (.int .i64 (-(m:Int))):=by rw [zA f2];rfl
 have ce4:w5.cell? ⟨w.heap.size+1,0,none⟩=some (.int .i64 0):=by rw [zA f3];rfl
 have hd4:DecAt w0 w5 b tb sb d':=GX.out.only o4 (by simp;omega) (by simp;omega) (by simp;omega) (by simp;omega);have ho4:Only [b,sb] w w5:=OX.out.trans' o4 (by simp);simp [Leaves,settle,results,Tryz.results246,go_sem,cv4,ce4];exact ⟨hd4,ho4⟩
theorem zIh {w0 w:World} {b tb sb:Nat} {d d':Dec} (h:DecAt w0 w b tb sb d) (el inc v most:Int) (hc:zAx el v most=0) (i0:0≤inc) (i1:inc≤7) (hg:d.gives (ZV el inc v most) d') (hs:d.s.size≤140737488355328):
 Calls Tryz.prog 246 #[.pointer (some ⟨b,0,none⟩),.int .i64 el,.int .i64 inc,.int .i64 most] w fun r w'=>r=.returned (.tuple #[.int .i64 v,.int .i64 0])∧DecAt w0 w' b tb sb d'∧Only [b,sb] w w':=by
 obtain ⟨e0,e1,hm⟩:=zCB el v most hc;obtain ⟨r0,r1⟩:=zEI el;unfold ZV zCs at hg;rw [if_pos hm] at hg;have h0:zK el≠0:=by intro e;rw [e] at hm;simp [zy] at hm
 rcases (show zK el=1∨zK el=2∨zK el=3∨zK el=4 by omega) with hk|hk|hk|hk
 ·rw [hk] at hg hm;have hv:v=0∨v=1:=by simpa [zy] using hm
  exact zLU h el inc v most hk hv i0 i1 hg hs
 ·rw [hk] at hg hm;have hv:1≤most∧most≤63∧0≤v∧v≤most:=by simpa [zy] using hm
  obtain ⟨m,rfl⟩:=Int.eq_ofNat_of_zero_le (show 0≤most by omega);obtain ⟨x,rfl⟩:=Int.eq_ofNat_of_zero_le (show 0≤v by omega);exact zKR h el inc x m hk (by omega) (by omega) (by omega) i0 i1 (by simpa [zG2] using hg) hs
 ·rw [hk] at hg hm;have hv:-32767≤v∧v≤32767:=by simpa [zy] using hm
  have hraw:zG2 3 v most=Zk v.natAbs 9 3++zCp v:=rfl;rw [hraw] at hg
  rcases (show v=0∨0<v∨v<0 by omega) with rfl|hp|hn
  ·exact zLT h el inc most hk i0 i1 hg hs
  ·obtain ⟨m,rfl⟩:=Int.eq_ofNat_of_zero_le (show 0≤v by omega);have hsg:zCp (m:Int)=[97]:=by unfold zCp;rw [if_pos hp]
   rw [hsg,Int.natAbs_natCast] at hg;exact zMq h el inc most m hk (by omega) (by omega) i0 i1 hg hs
  ·obtain ⟨m,hm2⟩:=Int.eq_ofNat_of_zero_le (show 0≤-v by omega);obtain rfl:v=-(m:Int):=by omega
   have hsg:zCp (-(m:Int))=[98]:=by unfold zCp;rw [if_neg (by omega),if_pos hn]
   rw [hsg,Int.natAbs_neg,Int.natAbs_natCast] at hg;exact zMr h el inc most m hk (by omega) (by omega) i0 i1 hg hs
 ·rw [hk] at hg hm;have hv:0≤v∧v≤65535:=by simpa [zy] using hm
  obtain ⟨m,rfl⟩:=Int.eq_ofNat_of_zero_le hv.1;exact zKS h el inc most m hk (by omega) i0 i1 (by simpa [zG2] using hg) hs
end Go.Proofs.YtcppbdlmcbjmeaaGreatDoor
