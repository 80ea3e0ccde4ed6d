/- Lemmas that the law needs, part 44. -/
import Derived.Test.YtcppbdlmcbjmeaaGreatDoorJ43
set_option maxHeartbeats 12800000
set_option maxRecDepth 100000
namespace Go.Proofs.YtcppbdlmcbjmeaaGreatDoor
open Go.RowKit
structure MbsAt (w:World) (g:Nat) (ms:List MbN):Prop where
 each:∀ n m,ms[n]? =some m→∃ X,w.rangeAt g (n*483) (fnA 483 X).toList∧zN6 w X m
theorem MbsAt.only {w w':World} {g:Nat} {ms:List MbN} (h:MbsAt w g ms) (ho:Only [] w w'):MbsAt w' g ms where
 each:=fun n m hm=>by
  obtain ⟨X,h1,h2⟩:=h.each n m hm;obtain ⟨ao,len,cap,q1,q2,q4⟩:=h2.pcm;refine ⟨X,fun j v hj=>ho.cell (h1 j v hj) (by simp),h2.cell,ao,len,cap,q1,q2,fun h=>?_⟩;obtain ⟨gp,off,e1,e2⟩:=q4 h;exact ⟨gp,off,e1,fun i hi=>ho.cell (e2 i hi) (by simp)⟩
def zFh (Xs:List (Nat→Value)):List Value:=Xs.flatMap fun X=>(fnA 483 X).toList
theorem zJ5 (Xs:List (Nat→Value)) (X:Nat→Value):zFh (Xs++[X])=zFh Xs++(fnA 483 X).toList:=by simp [zFh]
def zNy (s:Sl) (w0:World) (ms:List MbN) (e:Ending) (w:World):Prop:=∃ (v:Value) (Xs:List (Nat→Value)),e=.returned (.tuple #[v,.bool true])∧Only [] w0 w∧w.ownsRow w0.heap.size 51 483 v ms.length (zFh Xs)∧Xs.length=ms.length∧∀ (n:Nat) (m:MbN) (X:Nat→Value),ms[n]? =some m→Xs[n]? =some X→MbOutN w [] X (s.out (zFI s (ms.take n)) m.y) m
theorem zDP (x:Int) (w:World):Calls Tryz.prog 14 #[.int .i64 x] w fun e w'=>e=.returned (.int .i64 x)∧w=w':=by
 go_enter Tryz.func14,Tryz.ntmps14
 go_wp2;go_ret;exact ⟨rfl,rfl⟩
structure RdRow (c:Cod) (w0 w:World) (sb:Nat) (hd:Nat→Value) (s:Sl) (p:Int) (ms:List MbN) (j:Nat) (G:List Nat) (Xs:List (Nat→Value)) (v:Value) (B:Nat):Prop where
 al:Along c w sb hd s p ms j G
 o:Only [] w0 w
 new:∀ i∈G,w0.heap.size≤i
 own:w.ownsRow B 51 483 v j (zFh Xs)
 len:Xs.length=j
 mb:∀ (a:Nat) (m:MbN) (X:Nat→Value),ms[a]? =some m→Xs[a]? =some X→MbOutN w G X (s.out (zFI s (ms.take a)) m.y) m
 dis:∀ g,v.ownBlock=some g→g∉G∧w0.heap.size≤g
structure RdMore (c:Cod) (w0 w:World) (sb:Nat) (hd:Nat→Value) (s:Sl) (p:Int) (ms:List MbN) (j:Nat) (G:List Nat) (Xs:List (Nat→Value)) (D:List Value) (X:Nat→Value) (v:Value) (B:Nat):Prop where
 al:Along c w sb hd s p ms (j+1) G
 o:Only [] w0 w
 new:∀ i∈G,w0.heap.size≤i
 own:w.ownsRow B 51 483 v j (zFh Xs)
 len:Xs.length=j
 mb:∀ (a:Nat) (m:MbN) (Y:Nat→Value),ms[a]? =some m→(Xs++[X])[a]? =some Y→MbOutN w G Y (s.out (zFI s (ms.take a)) m.y) m
 dis:∀ g,v.ownBlock=some g→g∉G∧w0.heap.size≤g
 all:D=zFh (Xs++[X])
theorem MbOutN.one {w:World} {G:List Nat} {X:Nat→Value} {ya:Nat→Int} {m:MbN} (h:MbOutN w G X ya m):(fnA 483 X).all (·.oneCell')=true:=by
 rw [Array.all_eq_true_iff_forall_mem];intro v hv;obtain ⟨j,hj,rfl⟩:∃ j,j<483∧X j=v:=by simpa [fnA] using hv
 by_cases hj2:j<482
 ·rw [h.cell j hj2];rfl
 ·obtain rfl:j=482:=by omega
  by_cases h2:m.y 0=2
  ·obtain ⟨pb,capb,q1,-⟩:=h.pcm h2;rw [q1];rfl
  ·rw [h.nil h2];rfl
theorem RdRow.read {c:Cod} {w0 w w':World} {sb j B:Nat} {hd X:Nat→Value} {s:Sl} {p:Int} {ms:List MbN} {m:MbN} {G G':List Nat} {Xs:List (Nat→Value)} {v:Value} (h:RdRow c w0 w sb hd s p ms j G Xs v B) (hm:ms[j]? =some m)
 (q1:Along c w' sb hd s p ms (j+1) G') (q2:Only G w w') (q3:∀ i∈G',i∈G∨w.heap.size≤i) (q4:MbOutN w' G' X (s.out (zFI s (ms.take j)) m.y) m):RdMore c w0 w' sb hd s p ms j G' Xs (zFh (Xs++[X])) X v B where
 al:=q1
 o:=h.o.trans' q2 (fun i hi=> .inr (h.new i hi))
 new:=fun i hi=>by
  rcases q3 i hi with h1|h1
  ·exact h.new i h1
  ·have:=h.o.size;omega
 own:=ZD h.own fun g hg=>by
  obtain ⟨cur,hcur⟩:=zD h.own hg;exact q2.block g (lt_of_block hcur) (h.dis g hg).1
 len:=h.len
 mb:=fun a m2 Y h1 h2=>by
  rcases Nat.lt_or_ge a Xs.length with ha|ha
  ·rw [List.getElem?_append_left ha] at h2;exact (h.mb a m2 Y h1 h2).step q2 (fun i hi=> .inl hi) q3
  ·rw [List.getElem?_append_right ha] at h2;have ha2:a-Xs.length=0:=by
    rcases Nat.eq_zero_or_pos (a-Xs.length) with h3|h3
    ·exact h3
    ·rw [List.getElem?_eq_none (by simp;omega)] at h2;cases h2
   rw [ha2] at h2;obtain rfl:X=Y:=by simpa using h2
   obtain rfl:a=j:=by have:=h.len;omega
   rw [hm] at h1;obtain rfl:m=m2:=by simpa using h1
   exact q4
 dis:=fun g hg=>by
  refine ⟨fun e=>?_,(h.dis g hg).2⟩
  rcases q3 g e with h1|h1
  ·exact (h.dis g hg).1 h1
  ·obtain ⟨cur,hcur⟩:=zD h.own hg;have:=lt_of_block hcur;omega
 all:=rfl
theorem RdMore.push {c:Cod} {w0 w w1 w':World} {sb j B g cap:Nat} {hd X:Nat→Value} {s:Sl} {p:Int} {ms:List MbN} {G:List Nat} {Xs:List (Nat→Value)} {D:List Value} {v:Value} (h:RdMore c w0 w sb hd s p ms j G Xs D X v B) (hc:c.Ok) (ho:Only [] w w1)
 (hp:Pushed w1 B 51 483 v (j+1) D (.slice (some ⟨g,0,none⟩) (j+1) cap) w'):RdRow c w0 w' sb hd s p ms (j+1) G (Xs++[X]) (.slice (some ⟨g,0,none⟩) (j+1) cap) B:=by
 obtain ⟨p1,p2,g',cap',p3,p4⟩:=hp;injection p3 with p3
 injection p3 with p3
 injection p3 with p3
 subst p3;have al1:=h.al.only hc ho (by simp);have hlow:=h.al.low hc;have o1:Only v.ownBlock.toList w1 w':=(Only.refl _ w1).grown p2 (fun k hk=> .inl (by simp [hk]));have hown:∀ k,v.ownBlock=some k→∃ cur,w1.heap[k]? =some (.cells cur 51 (0,0)):=fun k hk=>by
  obtain ⟨cur,hcur⟩:=zD h.own hk;exact ⟨cur,ho.heap hcur (by simp)⟩
 refine ⟨al1.only hc o1 (fun i hi hm=>(h.dis i (by simpa using hm)).1 hi),(h.o.trans ho).trans' o1 (fun i hi=> .inr (h.dis i (by simpa using hi)).2),h.new,by rw [←h.all];exact p1,by rw [List.length_append,h.len];rfl,fun a m Y h1 h2=>?_,fun k hk=>?_⟩
 ·have h3:=h.mb a m Y h1 h2;refine ⟨h3.cell,h3.nil,fun h4=>?_⟩;obtain ⟨pb,capb,j1,j2,j3,j4⟩:=h3.pcm h4;have j5:=j2.only ho (by simp);have j6:=j5.only o1 (fun hm=>by
   obtain ⟨cur,hcur⟩:=hown pb (by simpa using hm);obtain ⟨cur2,hcur2,-⟩:=j5;rw [hcur] at hcur2;simp at hcur2)
  exact ⟨pb,capb,j1,j6,j3,j6.lt⟩
 ·obtain rfl:g=k:=by simpa [Value.ownBlock] using hk
  rcases p4 with p4|p4
  ·exact h.dis g p4
  ·refine ⟨fun e=>?_,?_⟩
   ·have:=hlow g e;have:=ho.size;omega
   ·have:=(h.o.trans ho).size;omega
theorem zKH {hd:Nat→Value} {PL:List Value} {cnt qp:Int} {g cap k:Nat} {cabac:Bool} {s:Sl} {ms:List MbN} {w:World} (hA:Asc w) (hPl:(Tryz.prog.info? 28).map (·.size)=some PL.length) (hp:PL[0]? =some (.bool cabac)) (hh:zCy hd s.f cnt s.t s.a0 s.a1 qp) (h6:hd 6=.bool s.sp) (h17:hd 17=.int .i64 qp) (hf:s.f=0) (ht:0≤s.t∧s.t≤2) (hw:1≤s.wide∧s.wide≤8) (hq:0≤qp∧qp≤51) (ha0:0≤s.a0∧s.a0≤8) (ha1:0≤s.a1∧s.a1≤8)
 (hcnt:cnt=ms.length) (h1:1≤ms.length) (hms:ms.length≤20) (hok:∀ m∈ms,m.ok s) (hk:k=ms.length) (hM:MbsAt w g ms):
 Calls Tryz.prog 22 #[.agg (hdL hd).toArray,.agg PL.toArray,.int .i64 s.wide,.slice (some ⟨g,0,none⟩) k cap] w (zNy s w ms):=by
 have hhd:HdOk s hd cnt:=⟨hh.h0,hh.h1,hh.h2,h6,hh.h7,hh.h8,by omega,⟨hw.1,by omega⟩,ha0,ha1⟩;obtain ⟨HL,hHL⟩:∃ HL,HL=hdL hd:=⟨_,rfl⟩;obtain ⟨T,hT⟩:∃ T,T=zCu cabac s qp [] ms:=⟨_,rfl⟩;have hHi:(Tryz.prog.info? 26).map (·.size)=some HL.length:=by rw [hHL];show _=some 21;kernel_rfl
 have HNW:Hid (∀ wx bb,Asc wx→0<bb→WrIs wx bb (.slice none 0 0) []→Calls Tryz.prog 12 #[.pointer (some ⟨bb,0,none⟩),.agg HL.toArray,.agg PL.toArray,.int .i64 s.wide] wx (zOI wx hd s qp ms T [bb])):=zh (fun wx bb h1x h2x h3x=>by
  rw [hHL,hT];exact zF0 (ov:=.slice none 0 0) h1x (fun gx hg=>by simp [Value.ownBlock] at hg;omega) h3x (by decide) (by simpa using hp) hh h17 hw ht (by omega) hq ha0 ha1 hms hok)
 have HNR:Hid (∀ wx,Asc wx→Calls Tryz.prog 17 #[.string T,.int .i64 0,.agg HL.toArray,.agg PL.toArray,.int .i64 s.wide] wx (zOL wx hd s qp ms)):=zh (fun wx h1x=>by
  rw [hHL,hT];exact zF1 (bs:=[]) h1x (fun b hb=>absurd hb (by simp)) (by decide) (by simpa using hp) hh h17 hw ht (by omega) hq ha0 ha1 hcnt hms hok)
 have hwA:=ZA (w.alloc (.cells HL.toArray 26)) (.cells PL.toArray 28);rw [World.size_alloc] at hwA;have oA:Only [] w ((w.alloc (.cells HL.toArray 26)).alloc (.cells PL.toArray 28)):=((Only.refl [] w).alloc _).alloc _;have rH:((w.alloc (.cells HL.toArray 26)).alloc (.cells PL.toArray 28)).rangeAt w.heap.size 0 HL:=fun j v hj=>by
  rw [Nat.zero_add,zA (zF _ (ZA w _))]
  simpa using hj
 have rP:((w.alloc (.cells HL.toArray 26)).alloc (.cells PL.toArray 28)).rangeAt (w.heap.size+1) 0 PL:=fun j v hj=>by
  rw [Nat.zero_add,zA hwA]
  simpa using hj
 have sA:=lt_of_block hwA;have HA:=zh (hA.only oA (by simp));have Hpl:=zh hPl;have Hhi:=zh hHi;have HM:=zh (hM.only oA);have HO:=zh oA;have HrH:=zh rH;have HrP:=zh rP;have Hh:=zh hhd;have Hok:=zh hok;have Hk:=zh hk;have hk20:k≤20:=by omega
 have Hcnt:=zh hcnt;rw [←hHL];clear hPl hHi hwA oA rH rP hHL hT hA hM hh hok hp hk hcnt hhd
 go_enter Tryz.func22,Tryz.ntmps22
 go_wp2_with fail
 generalize (w.alloc (.cells HL.toArray 26)).alloc (.cells PL.toArray 28)=wa at*;refine zH (by kernel_rfl) (fun w'=>w'.rangeAt w.heap.size 0 HL∧w'.rangeAt (w.heap.size+1) 0 PL) 9 ?_;have hS0:(fun w':World=>w'.rangeAt w.heap.size 0 HL∧w'.rangeAt (w.heap.size+1) 0 PL) wa.drew:=⟨HrH.out,HrP.out⟩;refine AnyL.tl 1 rfl (yieldsIf_load_mid (by rfl) _ _ rfl w.heap.size 0 rfl HL _ (fun w' h=>h.1) Tryz.underlying26 rfl Hhi.out) ?_;refine AnyL.tl 2 rfl (yieldsIf_load_mid (by rfl) _ _ rfl (w.heap.size+1) 0 rfl PL _ (fun w' h=>h.2) Tryz.underlying28 rfl Hpl.out) ?_;refine AnyL.tk 3 (h:=?_);refine AnyL.on 0 (h:=fun K hK=>?_);go_simp;refine (zIj _).mono ?_;rintro e w1 ⟨rfl,k1,k2,k3⟩;have hSw1:(fun w':World=>w'.rangeAt w.heap.size 0 HL∧w'.rangeAt (w.heap.size+1) 0 PL) w1:=⟨fun j v hj=>k2.cell (hS0.1 j v hj) (by simp),fun j v hj=>k2.cell (hS0.2 j v hj) (by simp)⟩
 have O1:Hid (Only [] wa w1):=zh ((Only.refl [] wa).drew.trans k2);have K1:=zh k1;have hbb:wa.heap.size<w1.heap.size:=by rw [k3];exact Nat.lt_succ_self _
 refine hK _ _ (fun _=>hSw1) (fun hKq=>?_);clear hK K hKq k1 k2 k3
 try simp only [zpt]
 refine AnyL.on 4 (h:=fun K hK=>?_);go_simp;refine (HNW.out w1 _ (HA.out.only O1.out (by simp)) (show _<wa.heap.size from HA.out.lt) K1.out).mono ?_;rintro e w2 ⟨wb,c,sb,G,rfl,o2,hb⟩;have hSw2:(fun w':World=>w'.rangeAt w.heap.size 0 HL∧w'.rangeAt (w.heap.size+1) 0 PL) w2:=⟨fun j v hj=>o2.cell (hSw1.1 j v hj) (by simp;omega),fun j v hj=>o2.cell (hSw1.2 j v hj) (by simp;omega)⟩;have O2:Hid (Only [] wa w2):=zh (O1.out.trans' o2 (fun i hi=> .inr (by simp at hi;omega)));have hGn:Hid (∀ i∈G,wa.heap.size≤i):=zh (fun i hi=>by
  rcases hb.new i hi with h|h
  ·simp at h;omega
  ·omega)
 have HB:=zh hb;refine hK _ _ (fun _=>hSw2) (fun hKq=>?_);clear hK K hKq o2 hb
 try simp only [zpt]
 refine AnyL.tk 5 (h:=?_);refine AnyL.tk 6 (h:=?_);refine AnyL.tk 7 (h:=?_);refine AnyL.tk 8 (h:=?_);refine AnyL.on 9 (h:=fun K hK=>?_);go_simp;refine hK _ _ (fun _=>hSw2) (fun hKq=>?_);clear hK K hKq
 try simp only [zpt]
 refine AnyL.dn (h:=?_);have hbs2:=O2.out.size;clear O1 K1 hS0 hSw1 hbb;have HS2:=zh hSw2;clear hSw2;go_wp2
 go_loopw [12] (fun q wr=>∃ (n:Nat) (G':List Nat),n≤k∧q=.int .i64 (n:Int)∧Hid (Along c wr sb hd s qp ms n G')∧Hid (Only [] wa wr)∧Hid (∀ i∈G',wa.heap.size≤i)) (fun q _=>((k:Int)-intOf q).toNat)
 case atStart=>exact ⟨0,G,Nat.zero_le _,rfl,zh HB.out.along,O2,hGn⟩
 case round=>
  obtain ⟨n,G',hn,rfl,Hal,Hor,Hgn⟩:=hrel
  by_cases hnk:n<k
  ·obtain ⟨m,hm⟩:∃ m,ms[n]? =some m:=⟨_,List.getElem?_eq_getElem (show n<ms.length by have:=Hk.out;omega)⟩;obtain ⟨X,hX1,hX2⟩:=(HM.out.only Hor.out).each n m hm;have Hnext:=zh (zJc HB.out.ok HB.out.T HB.out.pv HB.out.wr HB.out.cell Hal.out hm Hok.out hq Hh.out (by have:=Hk.out;omega) (by have:=Hcnt.out;have:=Hk.out;omega) hX2);obtain ⟨XL,hXL⟩:∃ XL,XL=(fnA 483 X).toList:=⟨_,rfl⟩;have eX:fnA 483 X=XL.toArray:=by rw [hXL,zw]
   rw [eX] at Hnext;rw [←hXL] at hX1;have HrX:=zh hX1;have HXi:=zh (show (Tryz.prog.info? 51).map (·.size)=some XL.length by rw [hXL,ZH];kernel_rfl);clear hX1 hX2 hm hXL eX
   go_wp2_with (with_reducible refine wpList_load_mid rfl 51 _ rfl g (n*483) rfl XL _ HrX.out Tryz.underlying51 rfl HXi.out ?_)
   refine Hnext.out.mono ?_;rintro e w3 ⟨rfl,G2,q1,q2,q3⟩;have Hal3:=zh q1;have Hor3:Hid (Only [] wa w3):=zh (Hor.out.trans' q2 (fun i hi=> .inr (Hgn.out i hi)));have Hgn3:Hid (∀ i∈G2,wa.heap.size≤i):=zh (fun i hi=>by
    rcases q3 i hi with h|h
    ·exact Hgn.out i h
    ·have:=Hor.out.size;omega)
   clear q1 q2 q3 Hnext Hal Hor Hgn HrX HXi;go_wp2;exact ⟨⟨n+1,G2,by omega,rfl,Hal3,Hor3,Hgn3⟩,by simp [intOf];omega⟩
  ·obtain rfl:n=k:=by omega
   have Hend:=zh (HB.out.ends (by rw [Hh.out.h1,Hcnt.out]) wr G' (by rw [←Hk.out];exact Hal.out))
   go_wp2_with fail
   refine Hend.out.mono ?_;rintro e w3 ⟨rfl,q1,q2⟩;have O3:Hid (Only [] wa w3):=zh (Hor.out.trans' q1 (fun i hi=> .inr (Hgn.out i hi)));have HBy:=zh q2;have HrH3:Hid (w3.rangeAt w.heap.size 0 HL):=zh (fun j v hj=>O3.out.cell (HrH.out j v hj) (by simp));have HrP3:Hid (w3.rangeAt (w.heap.size+1) 0 PL):=zh (fun j v hj=>O3.out.cell (HrP.out j v hj) (by simp));have HA3:=zh (HA.out.only O3.out (by simp));clear q1 q2 Hend Hal Hor Hgn
   go_wp2_with fail
   refine zH (by kernel_rfl) (fun w'=>w'.rangeAt w.heap.size 0 HL∧w'.rangeAt (w.heap.size+1) 0 PL) 10 ?_;have hS0:(fun w':World=>w'.rangeAt w.heap.size 0 HL∧w'.rangeAt (w.heap.size+1) 0 PL) w3.drew:=⟨HrH3.out,HrP3.out⟩;refine AnyL.tk 0 (h:=?_);refine AnyL.tl 2 rfl (yieldsIf_load_mid (by rfl) _ _ rfl w.heap.size 0 rfl HL _ (fun w' h=>h.1) Tryz.underlying26 rfl Hhi.out) ?_;refine AnyL.tl 3 rfl (yieldsIf_load_mid (by rfl) _ _ rfl (w.heap.size+1) 0 rfl PL _ (fun w' h=>h.2) Tryz.underlying28 rfl Hpl.out) ?_;refine AnyL.tk 4 (h:=?_);refine AnyL.on 1 (h:=fun K hK=>?_);go_simp;refine (HBy.out _ (Only.refl [] w3).drew).mono ?_;rintro e w4 ⟨rfl,o4⟩;have hSw4:(fun w':World=>w'.rangeAt w.heap.size 0 HL∧w'.rangeAt (w.heap.size+1) 0 PL) w4:=⟨fun j v hj=>o4.cell (hS0.1 j v hj) (by simp),fun j v hj=>o4.cell (hS0.2 j v hj) (by simp)⟩
   have O4:Hid (Only [] w3 w4):=zh ((Only.refl [] w3).drew.trans o4);refine hK _ _ (fun _=>hSw4) (fun hKq=>?_);clear hK K hKq o4
   try simp only [zpt]
   refine AnyL.on 5 (h:=fun K hK=>?_);go_simp;refine (HNR.out w4 (HA3.out.only O4.out (by simp))).mono ?_;rintro e w5 ⟨rb,cr,sr,Gr,rfl,o5,hb5⟩;have hSw5:(fun w':World=>w'.rangeAt w.heap.size 0 HL∧w'.rangeAt (w.heap.size+1) 0 PL) w5:=⟨fun j v hj=>o5.cell (hSw4.1 j v hj) (by simp),fun j v hj=>o5.cell (hSw4.2 j v hj) (by simp)⟩;have O5:Hid (Only [] wa w5):=zh ((O3.out.trans O4.out).trans o5);have HR:=zh hb5;have HRn:Hid (∀ i∈Gr,w4.heap.size≤i):=zh hb5.new;have hs4:wa.heap.size≤w4.heap.size:=(O3.out.trans O4.out).size;have O45:Hid (Only [] w4 w5):=zh o5;have Oa4:Hid (Only [] wa w4):=zh (O3.out.trans O4.out);refine hK _ _ (fun _=>hSw5) (fun hKq=>?_);clear hK K hKq o5 hb5 O4 HA3 hS0 hSw4 HrH3 HrP3 HBy O3
   try simp only [zpt]
   refine AnyL.tk 6 (h:=?_);refine AnyL.tk 7 (h:=?_);refine AnyL.tk 8 (h:=?_);refine AnyL.tk 9 (h:=?_);refine AnyL.on 10 (h:=fun K hK=>?_);go_simp;refine hK _ _ (fun _=>hSw5) (fun hKq=>?_);clear hK K hKq
   try simp only [zpt]
   refine AnyL.dn (h:=?_);clear hSw5;go_wp2;have hw5:w.heap.size≤w5.heap.size:=by have:=O5.out.size;omega
   go_loopw [18,17] (fun q v wr=>∃ (j:Nat) (G':List Nat) (Xs:List (Nat→Value)),j≤n∧q=.int .i64 (j:Int)∧Hid (RdRow cr w4 wr sr hd s qp ms j G' Xs v w.heap.size)) (fun q _ _=>((n:Int)-intOf q).toNat)
   case atStart=>exact ⟨0,Gr,[],Nat.zero_le _,rfl,zh ⟨HR.out.along,O45.out,HRn.out,World.ownsRow_nil _ _ _ _,rfl,fun a m X _ hX=>absurd hX (by simp),fun g hg=>by cases hg⟩⟩
   case round=>
    obtain ⟨j,G',Xs,hj,rfl,Hrow⟩:=hrel
    by_cases hjn:j<n
    ·obtain ⟨m,hm⟩:∃ m,ms[j]? =some m:=⟨_,List.getElem?_eq_getElem (show j<ms.length by have:=Hk.out;omega)⟩;have Hnext:=zh (zJu HR.out.ok HR.out.T HR.out.pv HR.out.wr HR.out.cell Hrow.out.al hm Hok.out hq Hh.out (by have:=Hk.out;omega) (by have:=Hcnt.out;have:=Hk.out;omega));have Hm:=zh hm;clear hm
     go_wp2_with fail
     refine Hnext.out.mono ?_;rintro e w6 ⟨Xf,G2,rfl,q1,q2,q3,q4⟩;obtain ⟨XL,hXL⟩:∃ XL,XL=(fnA 483 Xf).toList:=⟨_,rfl⟩;have eX:fnA 483 Xf=XL.toArray:=by rw [hXL,zw]
     have hX1:=q4.one;rw [eX] at hX1 ⊢;have Hrow6:=zh (Hrow.out.read Hm.out q1 q2 q3 q4);rw [zJ5,←hXL] at Hrow6;have A6:=ZA w6 (.cells Tryz.zeroCells51 51);have O6:=zh ((Only.refl [] w6).alloc (.cells Tryz.zeroCells51 51));have HX1:=zh hX1;have HXi:=zh (show (Tryz.prog.info? 51).map (·.size)=some XL.length by rw [hXL,ZH];kernel_rfl);have HXj:=zh (show (Tryz.prog.info? 51).map (·.size)=some XL.toArray.size by rw [List.size_toArray];exact HXi.out);have HX483:=zh (show XL.length=483 by rw [hXL,ZH]);have HA6:=zh A6;have HZ:=zh ((show Tryz.zeroCells51.size=483 by kernel_rfl).trans (show XL.toArray.size=483 by rw [List.size_toArray,HX483.out]).symm);clear q1 q2 q3 q4 hX1 eX hXL Hrow Hnext A6
     go_wp2_with (with_reducible refine ZN rfl 51 _ _ rfl w6.heap.size XL.toArray rfl rfl HA6.out HXj.out HZ.out HX1.out ?_)
     intro w7 hw7 ho7;have O7:Hid (Only [] w6 w7):=zh (O6.out.trans' ho7 (fun i hi=> .inr (by simp at hi;omega)));have hr7:w7.rangeAt w6.heap.size 0 XL:=fun a v hv=>by
      rw [Nat.zero_add,zA hw7]
      simpa using hv
     have Hr7:=zh hr7;have hsz7:=O7.out.size;have hsz6:w.heap.size≤w6.heap.size:=by have:=Oa4.out.size;have:=Hrow6.out.o.size;omega
     have N8:=zh (World.news_of_block (ZA w7 (.cells XL.toArray 51)));have HX1l:Hid (∀ u∈XL,u.oneCell'=true):=zh (fun u hu=>Array.all_eq_true_iff_forall_mem.1 HX1.out u (by simpa using hu));have Hown8:=zh (((ZD Hrow6.out.own (fun gg hg=>by
      obtain ⟨cur,hcur⟩:=zD Hrow6.out.own hg;exact O7.out.block gg (lt_of_block hcur) (by simp))):w7.ownsRow w.heap.size 51 483 u17 j (zFh Xs)).alloc (.cells XL.toArray 51))
     clear hw7 ho7 hr7 O6 HA6 HZ HXj
     go_wp2_with fail
     refine (zDP _ _).mono ?_;rintro e wn ⟨rfl,rfl⟩;have H48:=zh (show XL.toArray.size=483 by rw [List.size_toArray,HX483.out])
     go_wp2_with (with_reducible first
      |refine wpList_load_mid rfl 51 _ rfl w6.heap.size 0 rfl XL _ Hr7.out Tryz.underlying51 rfl HXi.out ?_
      |refine zGG rfl 29 _ rfl zNA XL.toArray rfl (by decide) H48.out ?_
      |refine zu 84 rfl ?_)
     refine ⟨?_⟩;have hb8:w.heap.size≤(w7.alloc (.cells XL.toArray 51)).heap.size:=by rw [World.size_alloc];omega
     refine zAM rfl _ _ rfl zNA w.heap.size u17 j (zFh Xs) rfl Hown8.out ⟨w7.heap.size,0,none⟩ 1 1 XL rfl HX483.out N8.out HX1l.out (by decide) (by omega) (by omega) hb8 ?_;intro g9 cap9 w9 hp9;have Hnew:=zh (Hrow6.out.push HR.out.ok O7.out hp9.of_alloc);clear hp9 Hrow6 O7 Hr7 Hown8 N8;go_wp2
     go_roundw
     case rel=>exact ⟨_,_,_,_,_,_,_,_,_,_,_,_,_,_,_,_,_,_,_,_,_,_,_,_,⟨j+1,G2,Xs++[Xf],by omega,rfl,Hnew⟩,rfl⟩
     case measure=>simp [intOf];omega
    ·obtain rfl:j=n:=by omega
     have Hend2:=zh (HR.out.ends wr G' (by rw [←Hk.out];exact Hrow.out.al))
     go_wp2_with fail
     refine Hend2.out.mono ?_;rintro e w6 ⟨rfl,q1⟩;have O6:Hid (Only [] w w6):=zh (((HO.out.trans Oa4.out).trans Hrow.out.o).trans' q1 (fun i hi=> .inr (by have:=Hrow.out.new i hi;have:=Oa4.out.size;omega)));have Hown6:Hid (w6.ownsRow w.heap.size 51 483 u17 j (zFh Xs)):=zh (ZD Hrow.out.own (fun gg hg=>by
      obtain ⟨cur,hcur⟩:=zD Hrow.out.own hg;exact q1.block gg (lt_of_block hcur) (Hrow.out.dis gg hg).1))
     have Hmb:Hid (∀ (a:Nat) (m:MbN) (X:Nat→Value),ms[a]? =some m→Xs[a]? =some X→MbOutN w6 [] X (s.out (zFI s (ms.take a)) m.y) m):=zh (fun a m X h1 h2=>(Hrow.out.mb a m X h1 h2).step q1 (fun i hi=> .inl hi) (fun i hi=>by cases hi));have Hlen:=zh Hrow.out.len;clear q1
     go_wp2_with fail
     refine (zDP _ _).mono ?_;rintro e wn ⟨rfl,rfl⟩;go_wp2;go_ret2;exact ⟨u17,Xs,rfl,O6.out,by rw [←Hk.out];exact Hown6.out,by rw [Hlen.out,Hk.out],Hmb.out⟩
theorem zH5:∀ (Xs:List (Nat→Value)) (i j:Nat) (X:Nat→Value),Xs[i]? =some X→j<483→(zFh Xs)[i*483+j]? =(fnA 483 X).toList[j]?
 |[],i,j,X,h,_=>by simp at h
 |Y::Xs,0,j,X,h,hj=>by
  obtain rfl:Y=X:=by simpa using h
  show ((fnA 483 Y).toList++zFh Xs)[0*483+j]? =_
  rw [Nat.zero_mul,Nat.zero_add,List.getElem?_append_left (by rw [ZH];exact hj)]
 |Y::Xs,i+1,j,X,h,hj=>by
  show ((fnA 483 Y).toList++zFh Xs)[(i+1)*483+j]? =_
  rw [List.getElem?_append_right (by rw [ZH];omega),ZH,show (i+1)*483+j-483=i*483+j by omega];exact zH5 Xs i j X (by simpa using h) hj
theorem zJq {w:World} {B g n cap:Nat} {Xs:List (Nat→Value)} (h:w.ownsRow B 51 483 (.slice (some ⟨g,0,none⟩) n cap) n (zFh Xs)) {i:Nat} {X:Nat→Value} (hX:Xs[i]? =some X):w.rangeAt g (i*483) (fnA 483 X).toList:=fun j v hj=>by
 have hj2:j<483:=by
  apply Classical.byContradiction
  intro e;rw [List.getElem?_eq_none (by rw [ZH];omega)] at hj
  cases hj
 have h2:=h.cells (g:=g) rfl (i*483+j) v (by rw [zH5 Xs i j X hX hj2,hj])
 rwa [Addr.add_lit,Nat.zero_add] at h2
theorem zJp {w:World} {B s n:Nat} {e:TypeId} {v:Value} {xs:List Value} (h:w.ownsRow B e s v n xs) (hn:0<n):∃ g cap,v=.slice (some ⟨g,0,none⟩) n cap∧B≤g∧g<w.heap.size:=by
 rcases h.2 with ⟨_,h0⟩|⟨g,cap,cur,rfl,hb,hg,_⟩
 ·omega
 ·exact ⟨g,cap,rfl,hb,lt_of_block hg⟩
def mbV (y:Nat→Int):Nat→Value:=fun j=>if j=482 then .slice none 0 0 else .int .i64 (y j)
theorem zJ7 {y:Nat→Int} {j:Nat} (h:j<482):mbV y j=.int .i64 (y j):=by
 unfold mbV;rw [if_neg (by omega)]
theorem zNc {w:World} {m:MbN} (h:m.y 0≠2):zN6 w (mbV m.y) m where
 cell:=fun j hj=>zJ7 hj
 pcm:=⟨none,0,0,rfl,by rw [if_neg h],fun h2=>absurd h2 h⟩
theorem zJ6 (y:Nat→Int):(fnA 483 (mbV y)).all (·.oneCell')=true:=by
 rw [Array.all_eq_true_iff_forall_mem];intro v hv;obtain ⟨j,hj,rfl⟩:∃ j,j<483∧mbV y j=v:=by simpa [fnA] using hv
 unfold mbV
 split<;>rfl
theorem zNX {s:Sl} {ds:List DoneP} {y:Nat→Int} (h:y 0≠3∧y 0≠4∧y 0≠5):s.out ds y=y:=by
 funext j
 unfold Sl.out Sl.parts
 split
 ·rw [if_neg h.2.1,if_neg (show ¬ (y 0=5∨y 0=3) from fun e=>e.elim h.2.2 h.1),show 20+(j-20)=j by omega]
 ·rfl
def hdQ (k q:Int):Nat→Value:=fun j=>if j=1 then .int .i64 k else if j=2 then .int .i64 2 else if j=17 then .int .i64 q else if j=6∨j=15∨j=18 then .bool false else if j=9∨j=10∨j=13∨j=14∨j=16 then .slice none 0 0 else .int .i64 0
theorem zMD (k q:Int):zCy (hdQ k q) (0:Nat) k 2 0 0 q:=⟨rfl,rfl,rfl,rfl,rfl,rfl⟩
theorem zKp (k q:Int):Tryz.prog.built 26 [(1,.int .i64 k),(2,.int .i64 2),(17,.int .i64 q)]=some (hdL (hdQ k q)).toArray:=by kernel_rfl
theorem zKS (k q:Int):(hdL (hdQ k q)).toArray.all (·.oneCell')=true:=by kernel_rfl
def zMj (c:Bool):List Value:=[.bool c,.bool false,.int .i64 0,.int .i64 0,.int .i64 0,.bool false,.bool false,.int .i64 1,.int .i64 1]
theorem zJR (c:Bool):Tryz.prog.built 28 [(0,.bool c),(7,.int .i64 1),(8,.int .i64 1)]=some (zMj c).toArray:=by kernel_rfl
def dcY (q:Int):Nat→Int:=fun j=>if j=0 then 1 else if j=18 then 2 else if j=49 then q else 0
theorem zLt (q:Int):Tryz.prog.built 51 [(0,.int .i64 1),(3,.int .i64 2),(7,.int .i64 q)]=some (fnA 483 (mbV (dcY q))):=by kernel_rfl
theorem zJS:Tryz.prog.built 28 [(7,.int .i64 1),(8,.int .i64 1)]=some (zMj false).toArray:=by kernel_rfl
theorem zGZ (c:Bool):(zMj c).toArray.all (·.oneCell')=true:=by kernel_rfl
theorem zI0 {P:Program} {fn:Func} {p q:Tmp} {t1 t2:TypeId} {post:Ending→World→Prop} {a:Act} {w:World} (h:fn.results=#[.cell p t1,.cell q t2]) (g1 g2:Nat) {u1 u2:TypeId} {c1 c2:Array Value} {d1 d2:TypeDesc}
 (hp:a.tmps.getD p undef=.pointer (some ⟨g1,0,none⟩)) (hq:a.tmps.getD q undef=.pointer (some ⟨g2,0,none⟩)) (hg1:w.heap[g1]? =some (.cells c1 u1 (0,0))) (hg2:w.heap[g2]? =some (.cells c2 u2 (0,0)))
 (hu1:P.underlying t1=some d1) (hd1:(match d1 with| .struct _| .array _ _=>true|_=>false)=true) (hi1:(P.info? t1).map (·.size)=some c1.size)
 (hu2:P.underlying t2=some d2) (hd2:(match d2 with| .struct _| .array _ _=>true|_=>false)=true) (hi2:(P.info? t2).map (·.size)=some c2.size) (hdf:a.defers=[])
 (hpost:post (.returned (.tuple #[.agg c1,.agg c2])) w):bodyPost P fn post .ret a w:=by
 have hp':a.tmps[p]?.getD undef=.pointer (some ⟨g1,0,none⟩):=by simpa using hp
 have hq':a.tmps[q]?.getD undef=.pointer (some ⟨g2,0,none⟩):=by simpa using hq
 refine bodyPost_ret (v:=.tuple #[.agg c1,.agg c2]) ?_ hdf hpost;simp [results,h,hp',hq',asAddr,run_loadVar_row w g1 u1 t1 c1 (0,0) d1 hg1 hu1 hd1 hi1,run_loadVar_row w g2 u2 t2 c2 (0,0) d2 hg2 hu2 hd2 hi2]
theorem zMV (w:World):Calls Tryz.prog 31 #[] w fun e w'=>e=.returned (.tuple #[.agg (hdL (hdQ 1 26)).toArray,.agg (zMj false).toArray])∧Only [] w w':=by
 have hHb:=zKp 1 26;have hPb:=zJS;have h1H:=zKS 1 26;have h1P:=zGZ false;obtain ⟨HL,hHL⟩:∃ HL,HL=hdL (hdQ 1 26):=⟨_,rfl⟩;obtain ⟨PL,hPL⟩:∃ PL,PL=zMj false:=⟨_,rfl⟩;rw [←hHL] at hHb h1H ⊢;rw [←hPL] at hPb h1P ⊢;have e1:HL.toArray.size=21:=by rw [List.size_toArray,hHL];rfl
 have e2:PL.toArray.size=9:=by rw [List.size_toArray,hPL];rfl
 have i1:(Tryz.prog.info? 26).map (·.size)=some HL.toArray.size:=by rw [e1];kernel_rfl
 have i2:(Tryz.prog.info? 28).map (·.size)=some PL.toArray.size:=by rw [e2];kernel_rfl
 have HHb:=zh hHb;have HPb:=zh hPb;have H1H:=zh h1H;have H1P:=zh h1P;have E1:=zh e1;have E2:=zh e2;have I1:=zh i1;have I2:=zh i2;clear hHb hPb h1H h1P e1 e2 i1 i2 hHL hPL
 go_enter Tryz.func31,Tryz.ntmps31
 go_wp2_with (first
  |(refine zn rfl 26 _ rfl HL.toArray (Eq.trans (by kernel_rfl) HHb.out) ?_)
  |(refine zn rfl 28 _ rfl PL.toArray (Eq.trans (by kernel_rfl) HPb.out) ?_)
  |(refine ZN rfl 26 _ _ rfl w.heap.size HL.toArray rfl rfl (zF _ (ZA w _)) I1.out (Eq.trans rfl E1.out.symm) H1H.out ?_))
 intro w2 hw2 ho2;have hP:=ho2.heap (ZA (w.alloc _) _) (by simp);rw [World.size_alloc] at hP;have O2:=zh ((((Only.refl [] w).alloc _).alloc _).trans' ho2 (fun i hi=> .inr (by simp at hi;omega)));have W2:=zh hw2;clear hw2 ho2
 go_wp2_with (refine ZN rfl 28 _ _ rfl (w.heap.size+1) PL.toArray rfl rfl hP I2.out (Eq.trans rfl E2.out.symm) H1P.out ?_)
 intro w3 hw3 ho3;have O3:=zh (O2.out.trans' ho3 (fun i hi=> .inr (by simp at hi;omega)));have hh3:=ho3.heap W2.out (by simp);clear ho3 hP;go_wp2;refine zI0 rfl w.heap.size (w.heap.size+1) rfl rfl hh3 hw3 Tryz.underlying26 rfl I1.out Tryz.underlying28 rfl I2.out rfl ?_;exact ⟨rfl,O3.out⟩
theorem zEl {HL PL:List Value} {wide:Int} {w:World}:Calls Tryz.prog 12 #[.pointer none,.agg HL.toArray,.agg PL.toArray,.int .i64 wide] w fun e w'=>e=.returned (.tuple #[.pointer none,.int .i64 1])∧Only [] w w':=by
 have O1:=zh (((Only.refl [] w).alloc (.cells HL.toArray 26)).alloc (.cells PL.toArray 28))
 go_enter Tryz.func12,Tryz.ntmps12
 go_wp2;go_ret2;exact ⟨rfl,O1.out⟩
def awY:Nat→Int:=fun j=>if j=434 then 3 else dcY 26 j
def awM:MbN:=⟨awY,fun _=>0⟩
theorem zCl {j:Nat} (h:j≠0∧j≠18∧j≠49∧j≠434):awY j=0:=by
 unfold awY dcY;rw [if_neg (by omega),if_neg (by omega),if_neg (by omega),if_neg (by omega)]
def awS:Sl:=⟨2,0,1,0,0,false⟩
theorem zNw:awM.ok awS where
 ty:=.inr (.inr rfl)
 body:=by
  refine ⟨.inr (.inr (.inr (.inl rfl))),?_,?_,?_,fun e=>absurd e (show (1:Int)≠0 by decide),fun _=>⟨(show (0:Int)≤2∧(2:Int)≤3 by decide),(show (0:Int)≤0∧(0:Int)≤3 by decide)⟩,fun e=>absurd e (show (1:Int)≠2 by decide),fun e=>absurd e (show (1:Int)≠3 by decide)⟩
  ·exact ⟨.inr (zAh.2 fun i hi=>zCl (by omega)),.inr (.inl rfl),.inl rfl,.inr rfl,.inr rfl⟩
  ·show (if zAi 1 0=true then (0:Int)≤26∧(26:Int)≤51 else (26:Int)=0)
   rw [if_pos (by decide)]
   decide
  ·refine (zJ (L:=0) (G:=0) (by decide) (by decide) rfl).2 ⟨fun _=> .inl rfl,fun b hb=>?_,fun k hk=>?_⟩
   ·have h:∀ i,i<16→awY (50+b*16+i)=0:=fun i hi=>zCl (by omega)
    refine ⟨fun _=>h,fun _=>h 0 (by decide),fun i hi=>?_⟩
    show -32767≤awY _∧awY _≤32767
    rw [h i hi];decide
   ·refine ⟨fun hn i hi=>?_,fun h0 i hi=>zCl (by omega),fun i hi=>?_⟩
    ·have:k≠0:=fun e=>hn (.inl ⟨e,rfl⟩)
     exact zCl (by omega)
    ·show -32767≤awY _∧awY _≤32767
     by_cases h:434+k*16+i=434
     ·rw [h];decide
     ·rw [zCl (by omega)];decide
 parts:=fun _ i hi=>zCl (by omega)
 inter:=fun h=>absurd h (show (1:Int)≠4 by decide)
 pcm:=fun _ _=>(show (0:Int)≤0∧(0:Int)≤255 by decide)
theorem zIq {w:World} (hA:Asc w):Calls Tryz.prog 11 #[] w fun e w'=>e=.returned (.bool true)∧Only [] w w':=by
 have htiny:=fun wx=>zMV wx
 have h1H:=zKS 1 26;have h1P:=zGZ false;obtain ⟨HL,hHL⟩:∃ HL,HL=hdL (hdQ 1 26):=⟨_,rfl⟩;obtain ⟨PL,hPL⟩:∃ PL,PL=zMj false:=⟨_,rfl⟩;obtain ⟨T,hT⟩:∃ T,T=zCu false awS 26 [] [awM]:=⟨_,rfl⟩;have hok:∀ m∈[awM],m.ok awS:=fun m hm=>by rw [List.mem_singleton.1 hm];exact zNw
 have HNW:Hid (∀ wx bb,Asc wx→0<bb→WrIs wx bb (.slice none 0 0) []→Calls Tryz.prog 12 #[.pointer (some ⟨bb,0,none⟩),.agg HL.toArray,.agg PL.toArray,.int .i64 1] wx (zOI wx (hdQ 1 26) awS 26 [awM] T [bb])):=zh (fun wx bb h1x h2x h3x=>by
  rw [hHL,hPL,hT];exact zF0 (s:=awS) (ov:=.slice none 0 0) h1x (fun gx hg=>by simp [Value.ownBlock] at hg;omega) h3x (by decide) rfl (zMD 1 26) rfl (by decide) (by decide) (by decide) (by decide) (by decide) (by decide) (by decide) hok)
 have HNR:Hid (∀ wx,Asc wx→Calls Tryz.prog 17 #[.string T,.int .i64 0,.agg HL.toArray,.agg PL.toArray,.int .i64 1] wx (zOL wx (hdQ 1 26) awS 26 [awM])):=zh (fun wx h1x=>by
  rw [hHL,hPL,hT];exact zF1 (s:=awS) (bs:=[]) h1x (fun b hb=>absurd hb (by simp)) (by decide) rfl (zMD 1 26) rfl (by decide) (by decide) (by decide) (by decide) (by decide) (by decide) rfl (by decide) hok)
 rw [←hHL] at h1H;rw [←hPL] at h1P;rw [←hHL,←hPL] at htiny;have e1:HL.toArray.size=21:=by rw [List.size_toArray,hHL];rfl
 have e2:PL.toArray.size=9:=by rw [List.size_toArray,hPL];rfl
 have Hhi:=zh (show (Tryz.prog.info? 26).map (·.size)=some HL.length by rw [←List.size_toArray,e1];kernel_rfl);have Hpl:=zh (show (Tryz.prog.info? 28).map (·.size)=some PL.length by rw [←List.size_toArray,e2];kernel_rfl);have HHj:=zh (show (Tryz.prog.info? 26).map (·.size)=some HL.toArray.size by rw [List.size_toArray];exact Hhi.out);have HPj:=zh (show (Tryz.prog.info? 28).map (·.size)=some PL.toArray.size by rw [List.size_toArray];exact Hpl.out);have H1H:=zh h1H;have H1P:=zh h1P;have E1:=zh e1;have E2:=zh e2;have HT:=zh htiny;have HA:=zh hA;have Hok:=zh hok;clear h1H h1P e1 e2 hHL hPL hT hok htiny hA
 go_enter Tryz.func11,Tryz.ntmps11
 go_wp2_with fail
 refine (HT.out w).mono ?_;rintro e w1 ⟨rfl,o1⟩;have O1:=zh o1;clear o1
 go_wp2_with (refine ZN rfl 26 _ _ rfl w1.heap.size HL.toArray rfl rfl (zF _ (ZA w1 _)) HHj.out (Eq.trans rfl E1.out.symm) H1H.out ?_)
 intro w2 hw2 ho2;have hP:=ho2.heap (ZA (w1.alloc _) _) (by simp);rw [World.size_alloc] at hP;have O2:Hid (Only [] w1 w2):=zh ((((Only.refl [] w1).alloc _).alloc _).trans' ho2 (fun i hi=> .inr (by simp at hi;omega)));have W2:=zh hw2;clear hw2 ho2
 go_wp2_with (refine ZN rfl 28 _ _ rfl (w1.heap.size+1) PL.toArray rfl rfl hP HPj.out (Eq.trans rfl E2.out.symm) H1P.out ?_)
 intro w3 hw3 ho3;obtain ⟨B1,hB1⟩:∃ B1,B1=w1.heap.size:=⟨_,rfl⟩;obtain ⟨B2,hB2⟩:∃ B2,B2=w1.heap.size+1:=⟨_,rfl⟩;have hh3:=ho3.heap W2.out (by simp);have O3:Hid (Only [] w w3):=zh (O1.out.trans (O2.out.trans' ho3 (fun i hi=> .inr (by simp at hi;omega))));have l1:=lt_of_block hh3;have l2:=lt_of_block hw3;rw [←hB2] at hw3 l2;rw [←hB1] at hh3 l1;rw [←hB2,←hB1];have HrH:Hid (w3.rangeAt B1 0 HL):=zh (fun j v hj=>by rw [Nat.zero_add,zA hh3];simpa using hj);have HrP:Hid (w3.rangeAt B2 0 PL):=zh (fun j v hj=>by rw [Nat.zero_add,zA hw3];simpa using hj);clear hw3 ho3 hh3 hP W2 O2 O1 hB1 hB2;obtain ⟨ZL,hZL⟩:∃ ZL,ZL=(fnA 483 (mbV (dcY 26))).toList:=⟨_,rfl⟩;have eZ:fnA 483 (mbV (dcY 26))=ZL.toArray:=by rw [hZL,zw]
 have hb:=zLt 26;have hZ1:=zJ6 (dcY 26);rw [eZ] at hb hZ1;have hZi:(Tryz.prog.info? 51).map (·.size)=some ZL.toArray.size:=by rw [List.size_toArray,hZL,ZH];kernel_rfl
 have hZ2:Tryz.zeroCells51.size=ZL.toArray.size:=(show Tryz.zeroCells51.size=483 by kernel_rfl).trans (show ZL.toArray.size=483 by rw [List.size_toArray,hZL,ZH]).symm;have HZb:=zh hb;have HZ1:=zh hZ1;have HZi:=zh hZi;have HZ2:=zh hZ2;have HeZ:=zh eZ;clear hb hZ1 hZi hZ2 eZ hZL;have Hw3:=O3.out.size
 go_wp2_with (first
  |(refine zn rfl 51 _ rfl ZL.toArray (Eq.trans (by kernel_rfl) HZb.out) ?_)
  |(refine ZN rfl 51 _ _ rfl w3.heap.size ZL.toArray rfl rfl (ZA w3 _) HZi.out HZ2.out HZ1.out ?_))
 intro w4 hw4 ho4;have hB4:BlkIn w4 w3.heap.size 483 51 (mbV (dcY 26)):=by unfold BlkIn;rw [HeZ.out];exact hw4
 have O4:Hid (Only [] w3 w4):=zh (((Only.refl [] w3).alloc _).trans' ho4 (fun i hi=> .inr (by simp at hi;omega)));have c434:w4.cell? ⟨w3.heap.size,434,none⟩=some (.int .i64 0):=by rw [hB4.cell 434 (by decide)];rfl
 have z434:=hB4.free 434;have HB5:=zh (hB4.set 434 (.int .i64 3));have O5:Hid (Only [] w3 (w4.setCell ⟨w3.heap.size,434,none⟩ (.int .i64 3))):=zh (O4.out.setCell (.inr (by simp)) _);clear hw4 ho4 hB4 O4 HZb HZ1 HZi HZ2 HeZ
 go_wp2_with fail
 generalize w4.setCell ⟨w3.heap.size,434,none⟩ (.int .i64 3)=w5 at*;obtain ⟨M,hM⟩:∃ M,M=w3.heap.size:=⟨_,rfl⟩;rw [←hM] at HB5 l1 l2;rw [←hM];obtain ⟨X,hX⟩:∃ X,X=upd (mbV (dcY 26)) 434 (.int .i64 3):=⟨_,rfl⟩;rw [←hX] at HB5;have HX:Hid (∀ wx,zN6 wx X awM):=zh (fun wx=>by
  refine ⟨fun j hj=>?_,none,0,0,by rw [hX];rfl,rfl,fun h=>absurd h (show (1:Int)≠2 by decide)⟩;rw [hX]
  show _=Value.int .i64 (awY j)
  by_cases h:j=434
  ·rw [h,zL];rfl
  ·rw [zO _ _ h,zJ7 hj];unfold awY;rw [if_neg h])
 have H482:Hid (X 482=.slice none 0 0):=zh (by rw [hX];rfl);clear hX c434 z434;have Ow5:Hid (Only [] w w5):=zh (O3.out.trans O5.out);have HA5:=zh (HA.out.only Ow5.out (by simp));have hrH5:w5.rangeAt B1 0 HL:=fun j v hj=>O5.out.cell (HrH.out j v hj) (by simp)
 have hrP5:w5.rangeAt B2 0 PL:=fun j v hj=>O5.out.cell (HrP.out j v hj) (by simp)
 have HrH5:=zh hrH5;have HrP5:=zh hrP5;have hm5:M<w5.heap.size:=HB5.out.lt;clear hrH5 hrP5 HrH HrP O3 O5 hM Hw3;refine zH (by kernel_rfl) (fun w'=>w'.rangeAt B1 0 HL∧w'.rangeAt B2 0 PL) 8 ?_;have hS0:(fun w':World=>w'.rangeAt B1 0 HL∧w'.rangeAt B2 0 PL) w5.drew:=⟨HrH5.out,HrP5.out⟩;refine AnyL.tl 1 rfl (yieldsIf_load_mid (by rfl) _ _ rfl B1 0 rfl HL _ (fun w' h=>h.1) Tryz.underlying26 rfl Hhi.out) ?_;refine AnyL.tl 2 rfl (yieldsIf_load_mid (by rfl) _ _ rfl B2 0 rfl PL _ (fun w' h=>h.2) Tryz.underlying28 rfl Hpl.out) ?_;refine AnyL.on 0 (h:=fun K hK=>?_);go_simp;refine (zIj _).mono ?_;rintro e w6 ⟨rfl,k1,k2,k3⟩;have hSw6:(fun w':World=>w'.rangeAt B1 0 HL∧w'.rangeAt B2 0 PL) w6:=⟨fun j v hj=>k2.cell (hS0.1 j v hj) (by simp),fun j v hj=>k2.cell (hS0.2 j v hj) (by simp)⟩;have O6:Hid (Only [] w5 w6):=zh ((Only.refl [] w5).drew.trans k2);have K1:=zh k1
 have hbb:w5.heap.size<w6.heap.size:=by rw [k3];exact Nat.lt_succ_self _
 refine hK _ _ (fun _=>hSw6) (fun hKq=>?_);clear hK K hKq k1 k2 k3
 try simp only [zpt]
 refine AnyL.on 3 (h:=fun K hK=>?_);go_simp;refine (HNW.out w6 _ (HA5.out.only O6.out (by simp)) (show _<w5.heap.size from HA5.out.lt) K1.out).mono ?_;rintro e w7 ⟨wb,c,sb,G,rfl,o7,hb⟩;have hSw7:(fun w':World=>w'.rangeAt B1 0 HL∧w'.rangeAt B2 0 PL) w7:=⟨fun j v hj=>o7.cell (hSw6.1 j v hj) (by simp;omega),fun j v hj=>o7.cell (hSw6.2 j v hj) (by simp;omega)⟩;have O7:Hid (Only [] w5 w7):=zh (O6.out.trans' o7 (fun i hi=> .inr (by simp at hi;omega)));have hGn:Hid (∀ i∈G,w5.heap.size≤i):=zh (fun i hi=>by
  rcases hb.new i hi with h|h
  ·simp at h;omega
  ·omega)
 have HBg:=zh hb;refine hK _ _ (fun _=>hSw7) (fun hKq=>?_);clear hK K hKq o7 hb
 try simp only [zpt]
 refine AnyL.tk 4 (h:=?_);refine AnyL.tk 5 (h:=?_);refine AnyL.tk 6 (h:=?_);refine AnyL.tk 7 (h:=?_);refine AnyL.on 8 (h:=fun K hK=>?_);go_simp;refine hK _ _ (fun _=>hSw7) (fun hKq=>?_);clear hK K hKq
 try simp only [zpt]
 refine AnyL.dn (h:=?_);clear O6 K1 hS0 hSw6 hSw7 hbb HNW;obtain ⟨XL,hXL⟩:∃ XL,XL=(fnA 483 X).toList:=⟨_,rfl⟩;have eX:fnA 483 X=XL.toArray:=by rw [hXL,zw]
 have HeX:=zh eX;have HXi:=zh (show (Tryz.prog.info? 51).map (·.size)=some XL.length by rw [hXL,ZH];kernel_rfl);have HX483:=zh (show XL.length=483 by rw [hXL,ZH]);have hrX:w5.rangeAt M 0 XL:=by rw [hXL];exact HB5.out.range
 have HrX:=zh hrX;have HrX7:Hid (w7.rangeAt M 0 XL):=zh (fun j v hj=>O7.out.cell (hrX j v hj) (by simp));have Hnext:=zh (zJc HBg.out.ok HBg.out.T HBg.out.pv HBg.out.wr HBg.out.cell HBg.out.along (show [awM][0]? =some awM from rfl) Hok.out (by decide) (show HdOk awS (hdQ 1 26) 1 from ⟨rfl,rfl,rfl,rfl,rfl,rfl,by decide,by decide,by decide⟩) (by decide) (by decide) (HX.out w7));rw [eX] at Hnext;clear hrX eX hXL
 go_wp2_with (with_reducible refine wpList_load_mid rfl 51 _ rfl M 0 rfl XL _ HrX7.out Tryz.underlying51 rfl HXi.out ?_)
 refine Hnext.out.mono ?_;rintro e w8 ⟨rfl,G2,q1,q2,q3⟩;have O8:Hid (Only [] w5 w8):=zh (O7.out.trans' q2 (fun i hi=> .inr (hGn.out i hi)));have hGn2:Hid (∀ i∈G2,w5.heap.size≤i):=zh (fun i hi=>by
  rcases q3 i hi with h|h
  ·exact hGn.out i h
  ·have:=O7.out.size;omega)
 have Hend:=zh (HBg.out.ends rfl w8 G2 q1);clear q1 q2 q3 Hnext HrX7
 go_wp2_with fail
 refine Hend.out.mono ?_;rintro e w9 ⟨rfl,q1,q2⟩;have O9:Hid (Only [] w5 w9):=zh (O8.out.trans' q1 (fun i hi=> .inr (hGn2.out i hi)));have HBy:=zh q2;have HrH9:Hid (w9.rangeAt B1 0 HL):=zh (fun j v hj=>O9.out.cell (HrH5.out j v hj) (by simp));have HrP9:Hid (w9.rangeAt B2 0 PL):=zh (fun j v hj=>O9.out.cell (HrP5.out j v hj) (by simp));have HA9:=zh (HA5.out.only O9.out (by simp));clear q1 q2 Hend O8
 go_wp2_with fail
 refine zH (by kernel_rfl) (fun w'=>w'.rangeAt B1 0 HL∧w'.rangeAt B2 0 PL) 9 ?_;have hS0:(fun w':World=>w'.rangeAt B1 0 HL∧w'.rangeAt B2 0 PL) w9.drew:=⟨HrH9.out,HrP9.out⟩;refine AnyL.tk 0 (h:=?_);refine AnyL.tl 2 rfl (yieldsIf_load_mid (by rfl) _ _ rfl B1 0 rfl HL _ (fun w' h=>h.1) Tryz.underlying26 rfl Hhi.out) ?_;refine AnyL.tl 3 rfl (yieldsIf_load_mid (by rfl) _ _ rfl B2 0 rfl PL _ (fun w' h=>h.2) Tryz.underlying28 rfl Hpl.out) ?_;refine AnyL.on 1 (h:=fun K hK=>?_);go_simp;refine (HBy.out _ (Only.refl [] w9).drew).mono ?_;rintro e w10 ⟨rfl,o10⟩;have hSw10:(fun w':World=>w'.rangeAt B1 0 HL∧w'.rangeAt B2 0 PL) w10:=⟨fun j v hj=>o10.cell (hS0.1 j v hj) (by simp),fun j v hj=>o10.cell (hS0.2 j v hj) (by simp)⟩;have O10:Hid (Only [] w9 w10):=zh ((Only.refl [] w9).drew.trans o10);refine hK _ _ (fun _=>hSw10) (fun hKq=>?_);clear hK K hKq o10
 try simp only [zpt]
 refine AnyL.on 4 (h:=fun K hK=>?_);go_simp;refine (HNR.out w10 (HA9.out.only O10.out (by simp))).mono ?_;rintro e w11 ⟨rb,cr,sr,Gr,rfl,o11,hb11⟩;have hSw11:(fun w':World=>w'.rangeAt B1 0 HL∧w'.rangeAt B2 0 PL) w11:=⟨fun j v hj=>o11.cell (hSw10.1 j v hj) (by simp),fun j v hj=>o11.cell (hSw10.2 j v hj) (by simp)⟩;have O11:Hid (Only [] w5 w11):=zh ((O9.out.trans O10.out).trans o11);have HR:=zh hb11;have HRn:Hid (∀ i∈Gr,w5.heap.size≤i):=zh (fun i hi=>by have:=hb11.new i hi;have:=(O9.out.trans O10.out).size;omega);refine hK _ _ (fun _=>hSw11) (fun hKq=>?_);clear hK K hKq o11 hb11 O10 HA9 hS0 hSw10 HrH9 HrP9 HBy
 try simp only [zpt]
 refine AnyL.tk 5 (h:=?_);refine AnyL.tk 6 (h:=?_);refine AnyL.tk 7 (h:=?_);refine AnyL.tk 8 (h:=?_);refine AnyL.on 9 (h:=fun K hK=>?_);go_simp;refine hK _ _ (fun _=>hSw11) (fun hKq=>?_);clear hK K hKq
 try simp only [zpt]
 refine AnyL.dn (h:=?_);clear hSw11 HNR;have Hrd:=zh (zJu HR.out.ok HR.out.T HR.out.pv HR.out.wr HR.out.cell HR.out.along (show [awM][0]? =some awM from rfl) Hok.out (by decide) (show HdOk awS (hdQ 1 26) 1 from ⟨rfl,rfl,rfl,rfl,rfl,rfl,by decide,by decide,by decide⟩) (by decide) (by decide))
 go_wp2_with fail
 refine Hrd.out.mono ?_;rintro e w12 ⟨Xf,G3,rfl,q1,q2,q3,q4⟩;have O12:Hid (Only [] w5 w12):=zh (O11.out.trans' q2 (fun i hi=> .inr (HRn.out i hi)));have hGn3:Hid (∀ i∈G3,w5.heap.size≤i):=zh (fun i hi=>by
  rcases q3 i hi with h|h
  ·exact HRn.out i h
  ·have:=O11.out.size;omega)
 obtain ⟨YL,hYL⟩:∃ YL,YL=(fnA 483 Xf).toList:=⟨_,rfl⟩;have eY:fnA 483 Xf=YL.toArray:=by rw [hYL,zw]
 have hY1:=q4.one;rw [eY] at hY1 ⊢;have HY1:=zh hY1;have HYi:=zh (show (Tryz.prog.info? 51).map (·.size)=some YL.length by rw [hYL,ZH];kernel_rfl);have HYj:=zh (show (Tryz.prog.info? 51).map (·.size)=some YL.toArray.size by rw [List.size_toArray];exact HYi.out);have HYz:=zh ((show Tryz.zeroCells51.size=483 by kernel_rfl).trans (show YL.toArray.size=483 by rw [List.size_toArray,hYL,ZH]).symm);have Hsame:Hid (∀ wx,Calls Tryz.prog 20 #[.agg YL.toArray,.agg XL.toArray] wx fun e w'=>e=.returned (.bool true)∧Only [] wx w'):=zh (fun wx=>by
  rw [←eY,←HeX.out];exact zMb (fun j hj=>(q4.cell j hj).trans (by rw [zNX (show awM.y 0≠3∧awM.y 0≠4∧awM.y 0≠5 by decide)])) (HX.out wx).cell (s:=ByteArray.empty) (fun wy _=>by rw [q4.nil (show (1:Int)≠2 by decide)];exact zG3 wy 0 0) (fun wy _=>by rw [H482.out];exact zG3 wy _ _))
 have Hend2:=zh (fun w1 G1=>HR.out.ends w1 G1);have Hq1:=zh q1;clear q1 q2 q3 q4 hY1 eY hYL Hrd
 go_wp2_with (refine ZN rfl 51 _ _ rfl w12.heap.size YL.toArray rfl rfl (ZA w12 _) HYj.out HYz.out HY1.out ?_)
 intro w13 hw13 ho13;obtain ⟨YB,hYB⟩:∃ YB,YB=w12.heap.size:=⟨_,rfl⟩;rw [←hYB] at hw13 ho13;rw [←hYB];have O13:Hid (Only [] w12 w13):=zh (((Only.refl [] w12).alloc _).trans' ho13 (fun i hi=> .inr (by simp at hi;omega)));have HrY:Hid (w13.rangeAt YB 0 YL):=zh (fun j v hj=>by rw [Nat.zero_add,zA hw13];simpa using hj);have hYl:=lt_of_block hw13;have Hal13:=zh (Hq1.out.only HR.out.ok O13.out (by simp));have hYn:Hid (∀ i∈G3,i≠YB):=zh (fun i hi e=>by have:=Hq1.out.low HR.out.ok i hi;omega);have Hend3:=zh (Hend2.out w13 G3 Hal13.out);clear hw13 ho13 Hq1 Hal13 Hend2 HY1 HYj HYz hYB
 go_wp2_with fail
 refine Hend3.out.mono ?_;rintro e w14 ⟨rfl,o14⟩;have O14:Hid (Only [] w5 w14):=zh ((O12.out.trans O13.out).trans' o14 (fun i hi=> .inr (hGn3.out i hi)));have HrY14:Hid (w14.rangeAt YB 0 YL):=zh (fun j v hj=>o14.cell (HrY.out j v hj) (fun e=>hYn.out _ e rfl));have HrH14:Hid (w14.rangeAt B1 0 HL):=zh (fun j v hj=>O14.out.cell (HrH5.out j v hj) (by simp));have HrP14:Hid (w14.rangeAt B2 0 PL):=zh (fun j v hj=>O14.out.cell (HrP5.out j v hj) (by simp));have HrX14:Hid (w14.rangeAt M 0 XL):=zh (fun j v hj=>O14.out.cell (HrX.out j v hj) (by simp));clear o14 Hend3 O13 O12 HrY
 go_wp2_with (with_reducible first
  |refine wpList_load_mid rfl 26 _ rfl B1 0 rfl HL _ HrH14.out Tryz.underlying26 rfl Hhi.out ?_
  |refine wpList_load_mid rfl 28 _ rfl B2 0 rfl PL _ HrP14.out Tryz.underlying28 rfl Hpl.out ?_)
 refine (zEl).mono ?_;rintro e w15 ⟨rfl,o15⟩;have O15:Hid (Only [] w w15):=zh ((Ow5.out.trans O14.out).trans o15);have HrY15:Hid (w15.rangeAt YB 0 YL):=zh (fun j v hj=>o15.cell (HrY14.out j v hj) (by simp));have HrX15:Hid (w15.rangeAt M 0 XL):=zh (fun j v hj=>o15.cell (HrX14.out j v hj) (by simp));clear o15 O14 HrY14 HrX14 HrH14 HrP14
 go_wp2_with (refine zu 55 rfl ?_)
 refine ⟨?_⟩
 iterate 3 (refine wpList_step (fun K hK=>?_);rw [if_pos (by rfl)];go_simp;refine hK _ _ ?_;clear hK K)
 refine wpList_nil ?_
 iterate 2 go_step
 refine wp_seq ?_;refine wp_region_lit ?_
 iterate 1 (refine wpList_step (fun K hK=>?_);rw [if_pos (by rfl)];go_simp;refine hK _ _ ?_;clear hK K)
 (refine wpList_step (fun K hK=>?_);rw [if_pos (by rfl)];go_simp;refine (zDP _ _).mono ?_;rintro e9 w9 ⟨h9,h8⟩;subst h9;subst h8;dsimp only;refine hK _ _ ?_;clear hK K)
 iterate 3 (refine wpList_step (fun K hK=>?_);rw [if_pos (by rfl)];go_simp;refine hK _ _ ?_;clear hK K)
 (refine wpList_step (fun K hK=>?_);rw [if_pos (by rfl)];go_simp;refine (zDP _ _).mono ?_;rintro e9 w9 ⟨h9,h8⟩;subst h9;subst h8;dsimp only;refine hK _ _ ?_;clear hK K)
 iterate 4 (refine wpList_step (fun K hK=>?_);rw [if_pos (by rfl)];go_simp;refine hK _ _ ?_;clear hK K)
 (refine wpList_step (fun K hK=>?_);rw [if_pos (by rfl)];go_simp;refine (zDP _ _).mono ?_;rintro e9 w9 ⟨h9,h8⟩;subst h9;subst h8;dsimp only;refine hK _ _ ?_;clear hK K)
 iterate 4 (refine wpList_step (fun K hK=>?_);rw [if_pos (by rfl)];go_simp;refine hK _ _ ?_;clear hK K)
 (refine wpList_step (fun K hK=>?_);rw [if_pos (by rfl)];go_simp;refine (zDP _ _).mono ?_;rintro e9 w9 ⟨h9,h8⟩;subst h9;subst h8;dsimp only;refine hK _ _ ?_;clear hK K)
 iterate 4 (refine wpList_step (fun K hK=>?_);rw [if_pos (by rfl)];go_simp;refine hK _ _ ?_;clear hK K)
 (refine wpList_step (fun K hK=>?_);rw [if_pos (by rfl)];go_simp;refine (zDP _ _).mono ?_;rintro e9 w9 ⟨h9,h8⟩;subst h9;subst h8;dsimp only;refine hK _ _ ?_;clear hK K)
 iterate 3 (refine wpList_step (fun K hK=>?_);rw [if_pos (by rfl)];go_simp;refine hK _ _ ?_;clear hK K)
 refine zR (by rfl) 51 _ rfl YB 0 rfl YL _ HrY15.out Tryz.underlying51 rfl HYi.out ?_;simp only [Act.put,List.setIfInBounds_toArray,List.set_cons_zero,List.set_cons_succ];refine zR (by rfl) 51 _ rfl M 0 rfl XL _ HrX15.out Tryz.underlying51 rfl HXi.out ?_;simp only [Act.put,List.setIfInBounds_toArray,List.set_cons_zero,List.set_cons_succ];refine wpList_step (fun K hK=>?_);rw [if_pos (by rfl)];go_simp;refine (Hsame.out _).mono ?_;rintro _ w16 ⟨rfl,o16⟩;dsimp only;refine hK _ _ ?_;clear hK K;have O16:=zh (O15.out.trans o16);clear o16
 iterate 3 (refine wpList_step (fun K hK=>?_);rw [if_pos (by rfl)];go_simp;refine hK _ _ ?_;clear hK K)
 (refine wpList_step (fun K hK=>?_);rw [if_pos (by rfl)];go_simp;refine (zDP _ _).mono ?_;rintro e9 w9 ⟨h9,h8⟩;subst h9;subst h8;dsimp only;refine hK _ _ ?_;clear hK K)
 iterate 4 (refine wpList_step (fun K hK=>?_);rw [if_pos (by rfl)];go_simp;refine hK _ _ ?_;clear hK K)
 (refine wpList_step (fun K hK=>?_);rw [if_pos (by rfl)];go_simp;refine (zDP _ _).mono ?_;rintro e9 w9 ⟨h9,h8⟩;subst h9;subst h8;dsimp only;refine hK _ _ ?_;clear hK K)
 iterate 3 (refine wpList_step (fun K hK=>?_);rw [if_pos (by rfl)];go_simp;refine hK _ _ ?_;clear hK K)
 refine wpList_nil ?_;go_wp2;go_ret;exact ⟨rfl,O16.out⟩
end Go.Proofs.YtcppbdlmcbjmeaaGreatDoor
