/- Lemmas that the law needs, part 37. -/
import Derived.Test.YtcppbdlmcbjmeaaGreatDoorK36
set_option maxHeartbeats 3200000
set_option maxRecDepth 100000
namespace Go.Proofs.YtcppbdlmcbjmeaaGreatDoor
open Go.RowKit
theorem IntSlice.alloc {w:World} {v:Value} {xs:List Int} (h:IntSlice w v xs) (o:Obj):IntSlice (w.alloc o) v xs:=h.only ((Only.refl [] w).alloc o) (by simp)
theorem zHp {w0 w:World} {b tb sb:Nat} {ov:Value} {e:Enc} (h:EncAt w0 w b tb sb ov e) (hl:e.Live) (hst:e.st.length=256) (v:Value) (cs:List Int) (cat inc:Int) (hv:IntSlice w v cs)
 (hc:e.cost<400000000) (hm:zGr cs.length cat inc=true) (hr:rangeB cs=true):
 Calls Tryz.prog 217 #[.pointer (some ⟨b,0,none⟩),v,.int .i64 cat,.int .i64 inc] w fun r w'=>r=.returned (.int .i64 0)∧∃ ov',EncAt w0 w' b tb sb ov' (e.run (zZ cs cat inc))∧EncGo w w' b sb ov ov':=by
 obtain ⟨hsz,m1,m2,m3,m4⟩:=zAe hm;obtain ⟨n,hn⟩:∃ n,n=cs.length:=⟨_,rfl⟩;obtain ⟨ao,cap0,rfl,hv0⟩:=hv;obtain ⟨g0,off,rfl,hv⟩:∃ g off,ao=some ⟨g,off,none⟩∧∀ i,i<cs.length→w.cell? ⟨g,off+i,none⟩=some (.int .i64 (cs.getD i 0)):=by
  rcases hv0 with rfl|h
  ·simp at hsz
  ·exact h
 have hcl:e.cost+8*(zZ cs cat inc++[]).length<500000000:=by
  have:=zCJ cs cat inc (by omega);rw [List.append_nil];omega
 have hf:∀ o∈zZ cs cat inc++[],o.fits 256:=by
  rw [List.append_nil];exact zDG cs cat inc m1 m3
 rw [←hn] at hv hm hsz ⊢;have H:=zh h;have Hv:=zh hv;have Hm:=zh hm;have Hr:=zh (zCN hr);have Hn:=zh hn;have Hl:=zh hl;have Hst:=zh hst;have Hc:=zh hcl;have Hf:=zh hf;have hn16:4≤n∧n≤16:=by omega
 obtain ⟨hn4,hn16⟩:=hn16;have hlb:=lt_of_block h.is.cells;have hls:=lt_of_block h.is.sts;clear hv0 h hv hm hr hn hl hst hc hf hcl hsz
 go_enter Tryz.func217,Tryz.ntmps217
 go_wp2_with fail
 refine (zGU n cat inc w).mono ?_;rintro r w1 ⟨rfl,rfl⟩;rw [Hm.out,show zE2 true=0 from rfl];go_wp2
 go_loop [24] (fun q=>∃ k:Nat,k≤n∧q=.int .i64 k) (fun q=>n-(intOf q).toNat)
 case atStart=>exact ⟨0,Nat.zero_le _,rfl⟩
 case round=>
  obtain ⟨k,hk,rfl⟩:=hrel
  by_cases hlt:k<n
  ·have c1:=Hv.out k hlt;obtain ⟨r0,r1⟩:=Hr.out k;obtain ⟨x,hx⟩:∃ x,x=cs.getD k 0:=⟨_,rfl⟩;rw [←hx] at c1 r0 r1;clear hx;go_wp2
   go_round
   case rel=>exact ⟨k+1,by omega,by go_num⟩
   case measure=>simp [intOf]<;>omega
  ·obtain rfl:k=n:=by omega
   have hnews:∀ (j:Nat) (u:Value),(cs.map (Value.int .i64))[j]? =some u→(w.alloc (.cells #[.pointer (some ⟨b,0,none⟩),.pointer none] 321)).cell? ((⟨g0,off,none⟩:Addr).add j)=some u:=by
    intro j u hj;rw [List.getElem?_map] at hj
    by_cases hjl:j<cs.length
    ·rw [List.getElem?_eq_getElem hjl] at hj;have h1:=((Only.refl [] w).alloc (.cells #[.pointer (some ⟨b,0,none⟩),.pointer none] 321)).cell (Hv.out j (by rw [Hn.out];exact hjl)) (by simp);rw [Addr.add_lit,h1]
     simpa [List.getD,List.getElem?_eq_getElem hjl] using hj
    ·rw [List.getElem?_eq_none (by omega)] at hj;cases hj
   have Hnews:=zh hnews;clear hnews
   go_wp2_with (at_builtin;refine zAo rfl _ _ rfl zEQ (w.heap.size+1) _ 0 [] rfl (World.ownsRow_nil _ _ _ _) ⟨g0,off,none⟩ k cap0 (cs.map (Value.int .i64)) rfl (by rw [List.length_map,←Hn.out,Nat.mul_one]) Hnews.out (by simp [Value.oneCell']) (by omega) (by omega) (by omega) (by simp) ?_)
   intro g cap w5 hp;have own5:=hp.1;have o5:Only [] (w.alloc (.cells #[.pointer (some ⟨b,0,none⟩),.pointer none] 321)) w5:=(Only.refl [] _).grown hp.2.1 (fun z hz=>by simp [Value.ownBlock] at hz);obtain ⟨cap',cur,hvv,hbg,hg5,hcur⟩:∃ cap' cur,Value.slice (some ⟨g,0,none⟩) k cap=.slice (some ⟨g,0,none⟩) k cap'∧w.heap.size+1≤g∧w5.heap[g]? =some (.cells cur 3 (0,0))∧∀ i,i<k→w5.cell? ⟨g,i,none⟩=(cs.map (Value.int .i64))[i]? :=by
    obtain ⟨g',cap',cur,hv',hb',hg',hi'⟩:=zAi own5 (by omega);injection hv' with e1 e2 e3
    injection e1 with e1
    injection e1 with e1
    subst e1;exact ⟨cap',cur,by rw [e3],hb',hg',hi'⟩
   have m5:MemAt w5 g k cs:=⟨cur,hg5,fun i hi=>by
    have h1:=hcur i hi;rw [zA hg5] at h1;rw [h1,List.getElem?_map,List.getElem?_eq_getElem (by have:=Hn.out;omega)];simp [List.getD,List.getElem?_eq_getElem (show i<cs.length by have:=Hn.out;omega)]⟩
   have hck:w5.heap[w.heap.size]? =some (.cells (zCk true b) 321 (0,0)):=o5.heap (ZA w _) (by simp);have h5:EncAt w0 w5 b tb sb ov e:=H.out.only (((Only.refl [] w).alloc _).trans o5) (by simp) (by simp) (by simp) (by simp) (by simp);have K5:Coding w0 w w5 true w.heap.size b tb sb ov (e.run (zZ cs cat inc)) (Dec.begin ⟨#[]⟩ []) (zZ cs cat inc++[]):=
    ⟨hck,H.out.on.size,Nat.le_refl _,hls,.inl ⟨rfl,ov,e,h5,EncGo.of_only (((Only.refl [] w).alloc _).trans o5),Hl.out,Hst.out,Hc.out,Hf.out,by rw [List.append_nil]⟩⟩
   have M5:=zh m5;have HK:=zh K5;have hgw:w.heap.size≤g:=by omega
   clear hp own5 o5 hvv hg5 hcur m5 hck h5 K5
   go_wp2_with fail
   refine (zJm cs cs g k cap cat inc HK.out M5.out hgw (fun _=>rfl) (fun h=>by cases h) Hn.out.symm Hn.out.symm (by omega) hn16 Hr.out m1 m2 m3 m4).mono ?_;rintro r w6 ⟨rfl,-,g2⟩;obtain ⟨e6,q1,q2,q3⟩:∃ ov6,EncAt w0 w6 b tb sb ov6 (e.run (zZ cs cat inc))∧EncGo w w6 b sb ov ov6∧True:=by
    rcases g2.run with ⟨-,ov6,e6,h1,h2,-,-,-,-,h7⟩|⟨h,-⟩
    ·rw [show e6=e.run (zZ cs cat inc) from h7] at h1;exact ⟨ov6,h1,h2,trivial⟩
    ·cases h
   have Q1:=zh q1;have Q2:=zh q2;clear g2 q1 q2 q3;go_wp2;go_ret;exact ⟨rfl,_,Q1.out,Q2.out⟩
theorem zHq (b:Nat) (ao:Option Addr) (n cap0:Nat) (cat inc:Int) (w:World) (hm:zGr n cat inc=false):
 Calls Tryz.prog 217 #[.pointer (some ⟨b,0,none⟩),.slice ao n cap0,.int .i64 cat,.int .i64 inc] w fun r w'=>r=.returned (.int .i64 800)∧w=w':=by
 have Hm:=zh hm;clear hm
 go_enter Tryz.func217,Tryz.ntmps217
 go_wp2_with fail
 refine (zGU n cat inc w).mono ?_;rintro r w1 ⟨rfl,rfl⟩;rw [Hm.out,show zE2 false=800 from rfl];go_wp2;go_ret;exact ⟨rfl,rfl⟩
theorem zGz (b:Nat) (v:Value) (cs:List Int) (cat inc:Int) (w:World) (hv:IntSlice w v cs) (hm:zGr cs.length cat inc=true) (hr:rangeB cs=false):
 Calls Tryz.prog 217 #[.pointer (some ⟨b,0,none⟩),v,.int .i64 cat,.int .i64 inc] w fun r w'=>r=.returned (.int .i64 802)∧w=w':=by
 obtain ⟨hsz,-,-,-,-⟩:=zAe hm;obtain ⟨n,hn⟩:∃ n,n=cs.length:=⟨_,rfl⟩;obtain ⟨ao,cap0,rfl,hv0⟩:=hv;obtain ⟨g0,off,rfl,hv⟩:∃ g off,ao=some ⟨g,off,none⟩∧∀ i,i<cs.length→w.cell? ⟨g,off+i,none⟩=some (.int .i64 (cs.getD i 0)):=by
  rcases hv0 with rfl|h
  ·simp at hsz
  ·exact h
 rw [←hn] at hv hm hsz ⊢;have hn16:n≤16:=by omega
 have Hv:=zh hv;have Hm:=zh hm;have Hr:=zh hr;have Hn:=zh hn;clear hv0 hv hm hr hn hsz
 go_enter Tryz.func217,Tryz.ntmps217
 go_wp2_with fail
 refine (zGU n cat inc w).mono ?_;rintro r w1 ⟨rfl,rfl⟩;rw [Hm.out,show zE2 true=0 from rfl];go_wp2
 go_loop [24] (fun q=>∃ k:Nat,k≤n∧q=.int .i64 k∧Hid (∀ i,i<k→-32767≤cs.getD i 0∧cs.getD i 0≤32767)) (fun q=>n-(intOf q).toNat)
 case atStart=>exact ⟨0,Nat.zero_le _,rfl,zh (fun i hi=>by omega)⟩
 case round=>
  obtain ⟨k,hk,rfl,hin⟩:=hrel
  by_cases hlt:k<n
  ·have c1:=Hv.out k hlt;obtain ⟨x,hx⟩:∃ x,x=cs.getD k 0:=⟨_,rfl⟩;rw [←hx] at c1;have Hx:=zh hx;clear hx
   rcases (show x< -32767∨(-32767≤x∧32767<x)∨(-32767≤x∧x≤32767) by omega) with h1|⟨h1,h2⟩|⟨h1,h2⟩
   ·go_wp2;go_ret;exact ⟨rfl,rfl⟩
   ·go_wp2;go_ret;exact ⟨rfl,rfl⟩
   ·have Hin2:Hid (∀ i,i<k+1→-32767≤cs.getD i 0∧cs.getD i 0≤32767):=zh (fun i hi=>by
     rcases Nat.lt_or_ge i k with h|h
     ·exact hin.out i h
     ·obtain rfl:i=k:=by omega
      rw [←Hx.out];exact ⟨h1,h2⟩)
    go_wp2
    go_round
    case rel=>exact ⟨k+1,by omega,by go_num,Hin2⟩
    case measure=>simp [intOf]<;>omega
  ·obtain rfl:k=n:=by omega
   have:=zG4 (cs:=cs) (fun i hi=>hin.out i (by rw [Hn.out];exact hi));rw [Hr.out] at this
   cases this
theorem zMQ {w0 w:World} {b tb sb:Nat} {ov:Value} {e:Enc} (h:EncAt w0 w b tb sb ov e) (hl:e.Live) (hst:e.st.length=256) (hc:e.cost<400000000) (v:Value) (cs:List Int) (cat inc:Int) (hv:IntSlice w v cs):
 Calls Tryz.prog 217 #[.pointer (some ⟨b,0,none⟩),v,.int .i64 cat,.int .i64 inc] w fun r w'=>r=.returned (.int .i64 (zKj cs cat inc))∧∃ ov',EncAt w0 w' b tb sb ov' (if zA1 cs cat inc then e.run (zZ cs cat inc) else e)∧EncGo w w' b sb ov ov':=by
 unfold zKj zA1
 cases hm:zGr cs.length cat inc with
 |false=>
  rw [if_neg (by decide),Bool.false_and,if_neg (by decide)];obtain ⟨ao,cap0,rfl,-⟩:=hv;refine (zHq b ao cs.length cap0 cat inc w hm).mono ?_;rintro r w' ⟨rfl,rfl⟩;exact ⟨rfl,ov,h,EncGo.refl _ _ _ _⟩
 |true=>
  rw [if_pos rfl,Bool.true_and]
  cases hr:rangeB cs with
  |false=>
   rw [if_neg (by decide),if_neg (by decide)];refine (zGz b v cs cat inc w hv hm hr).mono ?_;rintro r w' ⟨rfl,rfl⟩;exact ⟨rfl,ov,h,EncGo.refl _ _ _ _⟩
  |true=>
   rw [if_pos rfl,if_pos rfl];exact zHp h hl hst v cs cat inc hv hc hm hr
end Go.Proofs.YtcppbdlmcbjmeaaGreatDoor
