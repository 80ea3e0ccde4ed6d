/- Lemmas that the law needs, part 34. -/
import Derived.Test.YtcppbdlmcbjmeaaGreatDoorK33
import Derived.Deep.AppendLies
set_option maxHeartbeats 3200000
set_option maxRecDepth 100000
namespace Go.Proofs.YtcppbdlmcbjmeaaGreatDoor
open Go.RowKit
theorem elt2:Elt Tryz.prog 342 40 (.agg #[.int .i64 0,.int .i64 0]) 2 16:=⟨Tryz.underlying342,by kernel_rfl,rfl,by decide⟩
theorem Dec.can_of_bin {d d1:Dec} {c x:Int} (h:d.bin c=(x,0,d1)):0≤c∧c.toNat<d.st.length:=by
 unfold Dec.bin at h
 by_cases hc:d.can c=true
 ·unfold Dec.can at hc;rw [Bool.and_eq_true] at hc;have:=hc.2;simp at this;omega
 ·rw [if_neg hc] at h;simp at h
theorem zKg (b tb sb:Nat) (d:Dec) (c:Int) (w:World) (hd:DecIs w b tb sb d) (h0:0≤c) (h1:c.toNat<d.st.length):
 Calls Tryz.prog 257 #[.pointer (some ⟨b,0,none⟩),.int .i64 c] w fun r w'=>r=.returned (.int .i64 (d.st.getD c.toNat 0))∧w'=w:=by
 obtain ⟨i,rfl⟩:=Int.eq_ofNat_of_zero_le h0;rw [Int.toNat_natCast] at h1 ⊢;have c1:w.cell? ⟨b,1,none⟩=some (.slice (some ⟨sb,0,none⟩) d.st.length d.st.length):=by rw [zA hd.cells];rfl
 have c2:w.cell? ⟨sb,i,none⟩=some (.int .i64 (d.st.getD i 0)):=by rw [zA hd.sts];exact zBh _ _ h1
 obtain ⟨L,hL⟩:∃ L,L=d.st.length:=⟨_,rfl⟩;rw [←hL] at c1 h1;clear hd hL
 go_enter Tryz.func257,Tryz.ntmps257
 go_wp2;go_ret;exact ⟨rfl,rfl⟩
structure TakeAt (w0 wM w:World) (b tb sb tk:Nat) (sv:Value) (n:Nat) (el inc:Int) (k0 k1 k2 k3:Value) (d:Dec):Prop where
 dec:DecAt w0 w b tb sb d
 cells:w.heap[tk]? =some (.cells #[.pointer (some ⟨b,0,none⟩),k0,k1,k2,k3,sv,.int .i64 el,.int .i64 inc] 344 (0,0))
 rows:∃ xs,w.ownsRow wM.heap.size 40 2 sv n xs
 on:Only [b,sb,tk] wM w
 lb:b<wM.heap.size
 ltb:tb<wM.heap.size
 ls:sb<wM.heap.size
 lt:tk<wM.heap.size
 base:w0.heap.size≤tk
theorem TakeAt.go {w0 wM w w':World} {b tb sb tk:Nat} {sv:Value} {n:Nat} {el inc:Int} {k0 k1 k2 k3:Value} {d d':Dec} (h:TakeAt w0 wM w b tb sb tk sv n el inc k0 k1 k2 k3 d) (hd:DecAt w0 w' b tb sb d') (ho:Only [b,sb] w w'):TakeAt w0 wM w' b tb sb tk sv n el inc k0 k1 k2 k3 d':=by
 have h1:=h.dec.is.cells;have h2:=h.dec.is.sts;have n1:tk≠b:=ZC h.cells h1 (by decide);have n2:tk≠sb:=ZC h.cells h2 (by decide);obtain ⟨xs,hx⟩:=h.rows;refine ⟨hd,ho.heap h.cells (by simp [n1,n2]),⟨xs,zF hx fun g hg=>?_⟩,h.on.trans' ho (fun i hi=> .inl (by simp at hi ⊢;omega)),h.lb,h.ltb,h.ls,h.lt,h.base⟩;obtain ⟨cur,hc⟩:=zD hx hg;have n3:g≠b:=ZC hc h1 (by decide);have n4:g≠sb:=ZC hc h2 (by decide);exact ho.block g (lt_of_block hc) (by simp [n3,n4])
theorem TakeAt.drewN {w0 wM w:World} {b tb sb tk:Nat} {sv:Value} {n:Nat} {el inc:Int} {k0 k1 k2 k3:Value} {d:Dec} (h:TakeAt w0 wM w b tb sb tk sv n el inc k0 k1 k2 k3 d) (m:Nat):TakeAt w0 wM (w.drewN m) b tb sb tk sv n el inc k0 k1 k2 k3 d:=
 ⟨h.dec.drewN m,h.cells,by obtain ⟨xs,hx⟩:=h.rows;exact ⟨xs,zF hx (fun _ _=>rfl)⟩,h.on.drewN m,h.lb,h.ltb,h.ls,h.lt,h.base⟩
theorem TakeAt.drew {w0 wM w:World} {b tb sb tk:Nat} {sv:Value} {n:Nat} {el inc:Int} {k0 k1 k2 k3:Value} {d:Dec} (h:TakeAt w0 wM w b tb sb tk sv n el inc k0 k1 k2 k3 d):TakeAt w0 wM w.drew b tb sb tk sv n el inc k0 k1 k2 k3 d:=h.drewN 1
theorem TakeAt.pushed {w0 wM w w2:World} {b tb sb tk:Nat} {sv sv':Value} {n:Nat} {el inc:Int} {k0 k1 k2 k3:Value} {d:Dec} {x:Obj} {ys:List Value} (h:TakeAt w0 wM w b tb sb tk sv n el inc k0 k1 k2 k3 d)
 (ho:w2.ownsRow wM.heap.size 40 2 sv' (n+1) ys) (hg:(w.alloc x).drew.grownBy w2 sv.ownBlock):TakeAt w0 wM (w2.setCell ⟨tk,5,none⟩ sv') b tb sb tk sv' (n+1) el inc k0 k1 k2 k3 d:=by
 obtain ⟨xs,hx⟩:=h.rows;have hO:∀ g,sv.ownBlock=some g→wM.heap.size≤g∧g≠tk∧g≠b∧g≠sb∧g≠tb:=fun g hg=>by
  obtain ⟨c,hc⟩:=zD hx hg;refine ⟨?_,ZC hc h.cells (by decide),ZC hc h.dec.is.cells (by decide),ZC hc h.dec.is.sts (by decide),ZC hc h.dec.is.tab (by decide)⟩
  rcases hx.2 with ⟨rfl,_⟩|⟨g',cap,cur,rfl,hb,_⟩
  ·simp [Value.ownBlock] at hg
  ·simp [Value.ownBlock] at hg;subst hg;exact hb
 have o1:Only sv.ownBlock.toList w w2:=(((Only.refl _ w).alloc x).drew).grown hg (fun k hk=> .inl (by simp [hk]));have hk:tk∉sv.ownBlock.toList:=fun hi=>(hO tk (by simpa using hi)).2.1 rfl
 have hcells:=o1.heap h.cells hk;have o2:Only (tk::sv.ownBlock.toList) w (w2.setCell ⟨tk,5,none⟩ sv'):=(o1.mono (fun i hi=>by simp [hi])).setCell (.inl (by simp)) _;have n1:tk≠b:=ZC h.cells h.dec.is.cells (by decide);have n2:tk≠sb:=ZC h.cells h.dec.is.sts (by decide);have n3:tk≠tb:=ZC h.cells h.dec.is.tab (by decide);have hM:=h.base;have hlt:=h.lt;refine ⟨h.dec.only o2 ?_ ?_ ?_ ?_,?_,⟨ys,?_⟩,h.on.trans' o2 ?_,h.lb,h.ltb,h.ls,h.lt,h.base⟩
 ·intro i hi;simp only [List.mem_cons,Option.mem_toList] at hi
  rcases hi with rfl|hi
  ·exact hM
  ·have:=(hO i hi).1;omega
 ·simp only [List.mem_cons,Option.mem_toList,not_or];exact ⟨Ne.symm n1,fun hi=>(hO b hi).2.2.1 rfl⟩
 ·simp only [List.mem_cons,Option.mem_toList,not_or];exact ⟨Ne.symm n3,fun hi=>(hO tb hi).2.2.2.2 rfl⟩
 ·simp only [List.mem_cons,Option.mem_toList,not_or];exact ⟨Ne.symm n2,fun hi=>(hO sb hi).2.2.2.1 rfl⟩
 ·rw [zB _ hcells];rfl
 ·refine zF ho fun g hgo=>?_
  obtain ⟨c,hc⟩:=zD ho hgo;exact (zC _ hc (ZC hc hcells (by decide))).trans hc.symm
 ·intro i hi;simp only [List.mem_cons,Option.mem_toList] at hi
  rcases hi with rfl|hi
  ·exact .inl (by simp)
  ·exact .inr (hO i hi).1
theorem zGG {w0 w:World} {b tb sb tk:Nat} {d d1:Dec} {x:Int} (h:DecAt w0 w b tb sb d) (c0:w.cell? ⟨tk,0,none⟩=some (.pointer (some ⟨b,0,none⟩))) (hd:d.bypass=(x,0,d1)) (hs:d.s.size≤140737488355328):
 Calls Tryz.prog 254 #[.pointer (some ⟨tk,0,none⟩)] w fun r w'=>r=.returned (.int .i64 x)∧DecAt w0 w' b tb sb d1∧Only [b,sb] w w':=by
 have H:=zh h;have Hd:=zh hd;clear h hd
 go_enter Tryz.func254,Tryz.ntmps254
 go_wp2_with fail
 refine (H.out.bypass hs).mono ?_;rintro r w1 ⟨rfl,g1,g2⟩;rw [Hd.out] at g1 ⊢;have G:=zh g1;have G2:=zh g2;clear g1 g2;go_wp2;go_ret;exact ⟨rfl,G.out,G2.out⟩
theorem zHj {w0 wM w:World} {b tb sb tk:Nat} {sv:Value} {n:Nat} {el inc:Int} {k0 k1 k2 k3:Value} {d d1:Dec} {x:Int} (h:TakeAt w0 wM w b tb sb tk sv n el inc k0 k1 k2 k3 d) (hd:d.bypass=(x,0,d1)) (hs:d.s.size≤140737488355328):
 Calls Tryz.prog 254 #[.pointer (some ⟨tk,0,none⟩)] w fun r w'=>r=.returned (.int .i64 x)∧TakeAt w0 wM w' b tb sb tk sv n el inc k0 k1 k2 k3 d1:=by
 refine (zGG h.dec (by rw [zA h.cells];rfl) hd hs).mono ?_;rintro r w1 ⟨rfl,g1,g2⟩;exact ⟨rfl,h.go g1 g2⟩
theorem zGH {w0 wM w:World} {b tb sb tk:Nat} {sv:Value} {n:Nat} {el inc:Int} {k0 k1 k2 k3:Value} {d d1:Dec} {x:Int} (h:TakeAt w0 wM w b tb sb tk sv n el inc k0 k1 k2 k3 d) (hd:d.bin (zz el inc n)=(x,0,d1)) (hs:d.s.size≤140737488355328)
 (e0:0≤el) (e1:el≤19) (i0:0≤inc) (i1:inc≤7) (hn:n≤1000):
 Calls Tryz.prog 251 #[.pointer (some ⟨tk,0,none⟩)] w fun r w'=>r=.returned (.int .i64 x)∧∃ sv',TakeAt w0 wM w' b tb sb tk sv' (n+1) el inc k0 k1 k2 k3 d1:=by
 obtain ⟨hc0,hc1⟩:=Dec.can_of_bin hd;obtain ⟨xs,hx⟩:=h.rows;obtain ⟨ao,cp,rfl⟩:∃ ao cp,sv=.slice ao n cp:=by
  rcases hx.2 with ⟨rfl,h0⟩|⟨g,cap,cur,rfl,_⟩
  ·subst h0;exact ⟨_,_,rfl⟩
  ·exact ⟨_,_,rfl⟩
 have c0:w.cell? ⟨tk,0,none⟩=some (.pointer (some ⟨b,0,none⟩)):=by rw [zA h.cells];rfl
 have c5:w.cell? ⟨tk,5,none⟩=some (.slice ao n cp):=by rw [zA h.cells];rfl
 have c6:w.cell? ⟨tk,6,none⟩=some (.int .i64 el):=by rw [zA h.cells];rfl
 have c7:w.cell? ⟨tk,7,none⟩=some (.int .i64 inc):=by rw [zA h.cells];rfl
 have z5:=ZB h.cells 5;have H:=zh h;have Hd:=zh hd;have Hx:=zh hx;clear h hd hx
 go_enter Tryz.func251,Tryz.ntmps251
 go_wp2
 go_quiet ((go_at_call 230;exact Calls.quiet_of_same ((zCZ el inc n _ e0 e1 i0 i1 (by omega)).mono fun _ _ ⟨h1,h2⟩=>⟨h1,h2.symm⟩)))
 go_wp2;have H1:=zh (H.out.drewN nq);have h1x:=zF (w':=w.drewN nq) Hx.out (fun _ _=>rfl);generalize w.drewN nq=w1 at*;clear c0 c5 c6 c7 z5 H Hx;have c0:w1.cell? ⟨tk,0,none⟩=some (.pointer (some ⟨b,0,none⟩)):=by rw [zA H1.out.cells];rfl
 have c5:w1.cell? ⟨tk,5,none⟩=some (.slice ao n cp):=by rw [zA H1.out.cells];rfl
 have Hx:=zh h1x;clear h1x;have H1d:=zh H1.out.drew;have z5:=ZB H1.out.cells 5;have hlt:=lt_of_block H1.out.cells;have hne:(Value.slice ao n cp).ownBlock≠some tk:=fun hi=>by
  obtain ⟨c,hc⟩:=zD Hx.out hi;exact ZC hc H1.out.cells (by decide) rfl
 have Hne:=zh hne;have hbase:=H1.out.on.size;obtain ⟨i2,hi2,hz2,hs2,hb2⟩:=info_parts elt2.hi;obtain ⟨st,hst⟩:∃ st,st=d.st.getD (zz el inc n).toNat 0:=⟨_,rfl⟩;have Hst:=zh hst;have Hc0:=zh hc0;have Hc1:=zh hc1;have Hi2:=zh hi2;have Hz2:=zh hz2;have Hs2:=zh hs2;have Hb2:=zh hb2;clear hst hne hi2 hz2 hs2 hb2
 go_region_law (first
  |(refine step_append_lies _ (by rfl) _ _ _ (by rfl) wM.heap.size 40 i2 _ 2 16 Tryz.underlying342 Hi2.out Hz2.out Hs2.out Hb2.out rfl (by omega) (.slice ao n cp) n xs (by rfl) ((Hx.out.alloc _).drew)
     ⟨w1.heap.size,0,none⟩ 1 1 [.int .i64 (zz el inc n),.int .i64 st] (by rfl) (by rfl) (World.news_of_block (cs:=#[.int .i64 (zz el inc n),.int .i64 st]) (t:=40) (fr:=(0,0)) (heap_alloc_new w1 _)) (by simp [Value.oneCell'])
     (by omega) (by unfold maxLen;omega) (by omega) (by simp;omega) (w1.heap.size+1) (by simp) ?_
    intro gg cap w2 hown2 hgrow hat hlt2;have Hown2:=zh hown2;have Hgrow:=zh hgrow;have c5n:w2.cell? ⟨tk,5,none⟩=some (.slice ao n cp):=(hgrow.cell_far ⟨tk,5,none⟩ (by simp;omega) (Ne.symm Hne.out)).trans (by go_simp);have z5n:w2.frozen? ⟨tk,5,none⟩=false:=(hgrow.frozen_far ⟨tk,5,none⟩ (by simp;omega) (Ne.symm Hne.out)).trans (by go_simp);clear hown2 hgrow hat)
  |(go_simp;go_at_call 257;refine (zKg b tb sb d _ _ H1d.out.dec.is Hc0.out Hc1.out).mono ?_;rintro r w' ⟨rfl,rfl⟩;rw [←Hst.out]))
 all_goals
  have g5:=H1.out.pushed Hown2.out Hgrow.out;have G5:=zh g5;generalize w2.setCell ⟨tk,5,none⟩ (.slice (some ⟨gg,0,none⟩) (n+1) cap)=w3 at*;have c00:w3.cell? ⟨tk,0,none⟩=some (.pointer (some ⟨b,0,none⟩)):=by rw [zA g5.cells];rfl
  clear g5 c5n z5n c0 c5 z5 Hown2 Hgrow
  go_wp2_with fail
  refine (G5.out.dec.bin (zz el inc n) hs).mono ?_;rintro r w4 ⟨rfl,g1,g2⟩;rw [Hd.out] at g1 ⊢;have G6:=zh (G5.out.go g1 g2);clear g1 g2;go_wp2;go_ret;exact ⟨rfl,_,G6.out⟩
theorem zGw {w0 wM w:World} {b tb sb tk:Nat} {sv:Value} {el inc:Int} {k0 k1 k2 k3:Value} {d d':Dec} (v l:Nat) (rest:List Int) (h:TakeAt w0 wM w b tb sb tk sv 0 el inc k0 k1 k2 k3 d) (hvl:v≤l) (hl:l≤100) (hg:d.gives (Zm el inc 0 (zAj v l++rest)) d') (hs:d.s.size≤140737488355328)
 (e0:0≤el) (e1:el≤19) (i0:0≤inc) (i1:inc≤7):
 Calls Tryz.prog 252 #[.pointer (some ⟨tk,0,none⟩),.int .i64 l] w fun r w'=>r=.returned (.int .i64 v)∧∃ sv' n' d1,TakeAt w0 wM w' b tb sb tk sv' n' el inc k0 k1 k2 k3 d1∧d1.gives (Zm el inc n' rest) d'∧d1.s=d.s:=by
 have H:=zh h;have Hg:=zh hg;have hctx:∀ n,0≤zz el inc n:=fun n=>(zB8 el inc n e0 e1 i0).1
 have Hctx:=zh hctx;clear h hg hctx
 go_enter Tryz.func252,Tryz.ntmps252
 go_wp2
 go_loopw [5] (fun i wr=>∃ (k:Nat) (sv1:Value) (d1:Dec),k≤v∧i=.int .i64 k∧TakeAt w0 wM wr b tb sb tk sv1 k el inc k0 k1 k2 k3 d1∧Hid (d1.gives (Zm el inc k (zAj (v-k) (l-k)++rest)) d')∧Hid (d1.s=d.s)) (fun i _=>v-(intOf i).toNat)
 case atStart=>exact ⟨0,sv,d,Nat.zero_le _,rfl,H.out,Hg,zh rfl⟩
 case round=>
  obtain ⟨k,sv1,d1,hk,rfl,h1,hgv,hds⟩:=hrel;have H1:=zh h1;have hs1:Hid (d1.s.size≤140737488355328):=zh (by rw [hds.out];exact hs);clear h1
  by_cases hlt:k<v
  ·have hgv2:=hgv.out;rw [show v-k=(v-(k+1))+1 by omega,show l-k=(l-(k+1))+1 by omega,zI2,List.cons_append] at hgv2;obtain ⟨d2,q1,q2,q3⟩:=zHJ (Hctx.out k) hgv2;have Q1:=zh q1;have Q2:Hid (d2.s=d.s):=zh (q2.trans hds.out);have Q3:=zh q3;clear hgv2 q1 q2 q3;have hkl:k<l:=by omega
   go_wp2_with fail
   refine (zGH H1.out Q1.out hs1.out e0 e1 i0 i1 (by omega)).mono ?_;rintro r w2 ⟨rfl,sv2,g1⟩;have G1:=zh g1;clear g1;go_wp2
   go_roundw
   case rel=>exact ⟨k+1,sv2,d2,by omega,by go_num,G1.out,Q3,Q2⟩
   case measure=>simp [intOf]<;>omega
  ·obtain rfl:k=v:=by omega
   by_cases hkl:k<l
   ·have hgv2:=hgv.out;have ho:zAj (k-k) (l-k)=[48]:=by unfold zAj;rw [if_pos (by omega)];simp
    rw [ho,List.singleton_append] at hgv2;obtain ⟨d2,q1,q2,q3⟩:=zEK (Hctx.out k) hgv2;have Q1:=zh q1;have Q2:Hid (d2.s=d.s):=zh (q2.trans hds.out);have Q3:=zh q3;clear hgv2 q1 q2 q3 ho
    go_wp2_with fail
    refine (zGH H1.out Q1.out hs1.out e0 e1 i0 i1 (by omega)).mono ?_;rintro r w2 ⟨rfl,sv2,g1⟩;have G1:=zh g1;clear g1;go_wp2;go_ret;exact ⟨rfl,sv2,k+1,d2,G1.out,Q3.out,Q2.out⟩
   ·have hgv2:=hgv.out;have ho:zAj (k-k) (l-k)=[]:=by unfold zAj;rw [if_neg (by omega)];simp
    rw [ho,List.nil_append] at hgv2;have Q3:=zh hgv2;clear hgv2 ho;go_wp2;go_ret;exact ⟨rfl,sv1,k,d1,H1.out,Q3.out,hds.out⟩
theorem zCd {w0 wM w:World} {b tb sb tk:Nat} {sv:Value} {el inc:Int} {k0 k1 k2 k3:Value} {d d':Dec} (v own j0 most:Nat) (rest:List Int) (h:TakeAt w0 wM w b tb sb tk sv 0 el inc k0 k1 k2 k3 d) (hvl:v≤most) (hm:most≤65535) (ho:own≤20) (_hj0:j0≤4) (hjo:2^j0≤own)
 (hg:d.gives (Zm el inc 0 (Zk v own j0++rest)) d') (hs:d.s.size≤140737488355328) (e0:0≤el) (e1:el≤19) (i0:0≤inc) (i1:inc≤7):
 Calls Tryz.prog 253 #[.pointer (some ⟨tk,0,none⟩),.int .i64 own,.int .i64 j0,.int .i64 most] w fun r w'=>r=.returned (.int .i64 v)∧∃ sv' n' d1,TakeAt w0 wM w' b tb sb tk sv' n' el inc k0 k1 k2 k3 d1∧d1.gives (Zm el inc n' rest) d'∧d1.s=d.s:=by
 have H:=zh h;have Hs:=zh hs;have Hjo:=zh hjo;have hg1:=hg;unfold Zk at hg1;rw [List.append_assoc] at hg1;have Hg:=zh hg1;clear h hg hg1 hs hjo
 go_enter Tryz.func253,Tryz.ntmps253
 go_wp2_with fail
 refine (zGw (min v own) own _ H.out (by omega) (by omega) Hg.out Hs.out e0 e1 i0 i1).mono ?_;rintro r w1 ⟨rfl,sv1,n1,d1,g1,g2,g3⟩;have G1:=zh g1;have G3:=zh g3
 by_cases hov:own≤v
 ·rw [if_pos hov] at g2;have G2:=zh g2;have hmin:((min v own:Nat):Int)=(own:Int):=by omega
  rw [hmin];clear g1 g2 g3 hmin;go_wp2
  go_loopw [2,9] (fun p q wr=>∃ (f i y x:Nat) (d2:Dec),p=.int .i64 i∧q=.int .i64 y∧y+x=v∧Hid (2^i≤y)∧Hid (x+2^i<2^(i+f))∧TakeAt w0 wM wr b tb sb tk sv1 n1 el inc k0 k1 k2 k3 d2∧Hid (d2.gives (Zm el inc n1 (zBo f x i++rest)) d')∧Hid (d2.s=d.s)) (fun p _ _=>40-(intOf p).toNat)
  case atStart=>
   refine ⟨18,j0,own,v-own,d1,rfl,rfl,by omega,Hjo,zh ?_,G1.out,G2,G3⟩;have h1:2^(j0+18)=2^j0*262144:=by rw [Nat.pow_add]
   have h2:1≤2^j0:=Nat.one_le_two_pow;rw [h1];omega
  case round=>
   obtain ⟨f,i,y,x,d2,rfl,rfl,hyx,hiy,hfu,h2,hgv,hds⟩:=hrel;have H2:=zh h2;have hs2:Hid (d2.s.size≤140737488355328):=zh (by rw [hds.out];exact Hs.out);obtain ⟨p,hpi⟩:∃ p:Nat,p=2^i:=⟨_,rfl⟩;have hpy:p≤y:=by rw [hpi];exact hiy.out
   have hp1:1≤p:=by rw [hpi];exact Nat.one_le_two_pow
   have hi15:i≤15:=by
    rcases Nat.lt_or_ge 15 i with h|h
    ·have:2^16≤2^i:=Nat.pow_le_pow_right (by decide) h;omega
    ·exact h
   have Hw:=zh (zIE i p hpi (by omega));have Hp:=zh hpi;have hf0:1≤f:=by
    rcases Nat.eq_zero_or_pos f with h|h
    ·subst h;have:=hfu.out;simp at this;have:=Nat.one_le_two_pow (n:=i);omega
    ·exact h
   obtain ⟨f,rfl⟩:∃ f',f=f'+1:=⟨f-1,by omega⟩;clear h2 hpi
   by_cases hc:p≤x
   ·have hgv2:=hgv.out;rw [zBo,if_pos (by rw [←Hp.out];exact hc),List.cons_append] at hgv2;obtain ⟨d3,q1,q2,q3⟩:=zDT (by omega) hgv2;have Q1:=zh (show d2.bypass=(1,0,d3) from q1);have Q2:Hid (d3.s=d.s):=zh (q2.trans hds.out);have Q3:=zh q3;have hi14:i≤14:=by
     rcases Nat.lt_or_ge 14 i with h|h
     ·have:2^15≤2^i:=Nat.pow_le_pow_right (by decide) h;have:=Hp.out;omega
     ·exact h
    have hyp:y+p≤65535:=by omega
    clear hgv2 q1 q2 q3
    go_wp2_with fail
    refine (zHj H2.out Q1.out hs2.out).mono ?_;rintro r w2 ⟨rfl,g1⟩;have K1:=zh g1;clear g1;go_wp2;have hsum:wrap64 ((y:Int)+wrap64 (2^i))=((y+p:Nat):Int):=by rw [Hw.out,IntWalk.wrap64_in _ ⟨by omega,by omega⟩];simp
    have Hsum:=zh hsum;clear hsum
    go_roundw
    case rel=>
     refine ⟨f,i+1,y+p,x-p,d3,by go_num,by rw [Hsum.out],by omega,zh ?_,zh ?_,K1.out,by rw [Hp.out];exact Q3,Q2⟩
     ·rw [Nat.pow_succ,←Hp.out];omega
     ·have h1:=hfu.out;rw [show i+1+f=i+(f+1) from by omega,Nat.pow_succ 2 i];rw [←Hp.out] at h1 ⊢;omega
    case measure=>
     simp [intOf]<;>omega
   ·have hgv2:=hgv.out;rw [zBo,if_neg (by rw [←Hp.out];exact hc),List.cons_append] at hgv2;obtain ⟨d3,q1,q2,q3⟩:=zDT (by omega) hgv2;have Q1:=zh (show d2.bypass=(0,0,d3) from q1);have Q2:Hid (d3.s=d.s):=zh (q2.trans hds.out);have Q3:=zh q3;have hxm:Hid (x%2^i=x):=zh (Nat.mod_eq_of_lt (by rw [←Hp.out];omega));clear hgv2 q1 q2 q3
    go_wp2_with fail
    refine (zHj H2.out Q1.out hs2.out).mono ?_;rintro r w2 ⟨rfl,g1⟩;have K1:=zh g1;clear g1;go_wp2;obtain ⟨wo,hwo⟩:∃ wo:World,wo=wr:=⟨_,rfl⟩;subst hwo
    go_loopw [2,9] (fun p q wr=>∃ (j z:Nat) (d4:Dec),p=.int .i64 ((j:Int)-1)∧q=.int .i64 z∧j≤i∧Hid (z+x%2^j=v)∧TakeAt w0 wM wr b tb sb tk sv1 n1 el inc k0 k1 k2 k3 d4∧Hid (d4.gives (Zm el inc n1 (zJV x j++rest)) d')∧Hid (d4.s=d.s)) (fun p _ _=>(intOf p+1).toNat)
    case atStart=>exact ⟨i,y,d3,by go_num,rfl,Nat.le_refl _,zh (by rw [hxm.out];exact hyx),K1.out,Q3,Q2⟩
    case round=>
     obtain ⟨j,z,d4,rfl,rfl,hji,hzv,h4,hgv4,hds4⟩:=hrel;have H4:=zh h4;have hs4:Hid (d4.s.size≤140737488355328):=zh (by rw [hds4.out];exact Hs.out);clear h4
     by_cases hj:1≤j
     ·obtain ⟨j,rfl⟩:∃ i',j=i'+1:=⟨j-1,by omega⟩;have hgv5:=hgv4.out;rw [zJV,List.cons_append] at hgv5;obtain ⟨d5,q1,q2,q3⟩:=zDT (by omega) hgv5;obtain ⟨bt,hbt⟩:∃ bt:Nat,bt=x/2^j%2:=⟨_,rfl⟩;have hbt1:bt=0∨bt=1:=by omega
      have Q1:Hid (d4.bypass=((bt:Int),0,d5)):=zh (by rw [q1,hbt];simp only [Prod.mk.injEq,and_true];omega);have Q2:Hid (d5.s=d.s):=zh (q2.trans hds4.out);have Q3:=zh q3;obtain ⟨p2,hp2⟩:∃ p2:Nat,p2=2^j:=⟨_,rfl⟩;have hlow:Hid (z+bt*p2+x%2^j=v):=zh (by have h:=hzv.out;rw [zKC,←hbt,←hp2] at h;rw [hp2] at h ⊢;omega);have hzb:z+bt*p2≤v:=by have:=hlow.out;omega
      have hp2b:p2≤32768:=by
       have:p2≤2^15:=by rw [hp2];exact Nat.pow_le_pow_right (by decide) (by omega)
       omega
      have hsh:wrap64 ((bt:Int)*2^j)=((bt*p2:Nat):Int):=by
       have h1:(bt:Int)*2^j=((bt*p2:Nat):Int):=by rw [hp2];simp
       rw [h1];refine IntWalk.wrap64_in _ ⟨by omega,?_⟩
       rcases hbt1 with h|h<;>rw [h]<;>omega
      obtain ⟨m,hmm⟩:∃ m:Nat,m=bt*p2:=⟨_,rfl⟩;rw [←hmm] at hlow hzb hsh;have Hsh:=zh hsh;clear hsh;have hzm:z+m≤65535:=by omega
      clear hgv5 q1 q2 q3 hbt hp2 hmm hbt1
      go_wp2_with fail
      refine (zHj H4.out Q1.out hs4.out).mono ?_;rintro r w3 ⟨rfl,g1⟩;have K3:=zh g1;clear g1;go_wp2;have hsum:wrap64 ((z:Int)+wrap64 ((bt:Int)*2^j))=((z+m:Nat):Int):=by rw [Hsh.out,IntWalk.wrap64_in _ ⟨by omega,by omega⟩];simp
      have Hsum:=zh hsum;clear hsum
      go_roundw
      case rel=>exact ⟨j,z+m,d5,by go_num,by rw [Hsum.out],by omega,hlow,K3.out,Q3,Q2⟩
      case measure=>simp [intOf]<;>omega
     ·obtain rfl:j=0:=by omega
      have hz:z=v:=by have:=hzv.out;simp [Nat.mod_one] at this;exact this
      subst hz;have Q3:Hid (d4.gives (Zm el inc n1 rest) d'):=zh (by have:=hgv4.out;rw [zJV,List.nil_append] at this;exact this);go_wp2;go_ret;exact ⟨rfl,sv1,n1,d4,H4.out,Q3.out,hds4.out⟩
 ·rw [if_neg hov] at g2;have G2:=zh g2;have hmin:((min v own:Nat):Int)=(v:Int):=by omega
  rw [hmin];clear g1 g2 g3 hmin;go_wp2;go_ret;exact ⟨rfl,sv1,n1,d1,G1.out,by have:=G2.out;rwa [List.nil_append] at this,G3.out⟩
end Go.Proofs.YtcppbdlmcbjmeaaGreatDoor
