/- Lemmas that the law needs, part 14. -/
import Derived.Test.YtcppbdlmcbjmeaaGreatDoorK13
import Derived.StillTailTactics
set_option maxHeartbeats 6400000
set_option maxRecDepth 100000
namespace Go.Proofs.YtcppbdlmcbjmeaaGreatDoor
open Go.RowKit
theorem zGg (n:Nat) (f:Nat→Value):(fnA n f).size=n:=by simp [fnA]
def zAz (o m:Nat) (v f:Nat→Value):Nat→Value:=fun j=>if o≤j∧j<o+m then v (j-o) else f j
theorem zI0 (n o m:Nat) (f v:Nat→Value) (h:o+m≤n):zDO (fnA n f) o (fnA m v)=fnA n (zAz o m v f):=by
 apply Array.ext'
 unfold zDO fnA zAz;simp only [List.size_toArray,List.length_map,List.length_range]
 apply List.ext_getElem?
 intro j
 by_cases h1:j<o
 ·rw [List.getElem?_append_left (by simp;omega),List.getElem?_append_left (by simp;omega)];have h2:¬ (o≤j∧j<o+m):=by omega
  simp [h1,h2,show j<n by omega]
 ·by_cases h2:j<o+m
  ·rw [List.getElem?_append_left (by simp;omega),List.getElem?_append_right (by simp;omega)];have h3:o≤j∧j<o+m:=by omega
   have h4:min o n=o:=by omega
   simp [h3,h4,show j<n by omega,show j-o<m by omega]
  ·rw [List.getElem?_append_right (by simp;omega)];have h3:¬ (o≤j∧j<o+m):=by omega
   have h4:min o n+m=o+m:=by omega
   by_cases h5:j<n
   ·simp [h3,h4,h5,show o+m+(j-(o+m))=j by omega]
   ·simp [h4,h5,show n≤o+m+(j-(o+m)) by omega]
theorem Zj {P:Program} {ops:Array Oper} {rest:List Oper} {op:Oper} {a:Act} {w:World} {Q:Exit→Act→World→Prop} (hgd:op.guard=none) (ty:TypeId) (x y:Operand) (ho:op.op=.store ty x y)
 (g o m n:Nat) (v f:Nat→Value) (hx:a.eval x=.pointer (some ⟨g,o,none⟩)) (hy:a.eval y=.agg (fnA m v))
 {t:TypeId} (hg:BlkIn w g n t f) (hi:(P.info? ty).map (·.size)=some m) (hfit:o+m≤n) (h1:∀ i,(v i).oneCell'=true)
 (h:∀ w',BlkIn w' g n t (zAz o m v f)→Only [g] w w'→wpList P ops Q rest (a.put op.dst undef) w'):wpList P ops Q (op::rest) a w:=by
 refine zDZ hgd ty x y ho g o (fnA m v) hx hy hg (by rw [zGg];exact hi) (by rw [zGg,zGg];exact hfit) ?_ fun w' hb hw=>h w' ?_ hw
 ·rw [Array.all_eq_true_iff_forall_mem];intro u hu;obtain ⟨i,-,rfl⟩:∃ i,i<m∧v i=u:=by simpa [fnA] using hu
  exact h1 i
 ·unfold BlkIn;rw [hb,zI0 _ _ _ _ _ hfit]
def zV (S:Nat→Value) (z:Nat→Int):Nat→Value:=fun i=>if i<24 then S i else .int .i64 (z (i-24))
theorem zI (S:Nat→Value) (z:Nat→Int) {i:Nat} (h:i<24):zV S z i=S i:=by unfold zV;rw [if_pos h]
theorem zB4 (S:Nat→Value) (z:Nat→Int) (i:Nat):zV S z (24+i)=.int .i64 (z i):=by unfold zV;rw [if_neg (by omega),show 24+i-24=i by omega]
def zHa (o m:Nat) (v z:Nat→Int):Nat→Int:=fun j=>if o≤j∧j<o+m then v (j-o) else z j
theorem zLM (o m:Nat) (v:Nat→Int) (S:Nat→Value) (z:Nat→Int):zAz (24+o) m (fun i=> .int .i64 (v i)) (zV S z)=zV S (zHa o m v z):=by
 funext j
 unfold zAz zV zHa
 by_cases h0:j<24
 ·rw [if_neg (by omega),if_pos h0,if_pos h0]
 ·rw [if_neg h0,if_neg h0]
  by_cases h1:24+o≤j∧j<24+o+m
  ·rw [if_pos h1,if_pos (by omega),show j-24-o=j-(24+o) by omega]
  ·rw [if_neg h1,if_neg (by omega)]
theorem zJf (o:Nat) (v:Int) (S:Nat→Value) (z:Nat→Int):upd (zV S z) (24+o) (.int .i64 v)=zV S (zHa o 1 (fun _=>v) z):=by
 funext j
 unfold upd zV zHa
 by_cases h0:j<24
 ·rw [if_neg (by omega),if_pos h0,if_pos h0]
 ·rw [if_neg h0,if_neg h0]
  by_cases h1:j=24+o
  ·rw [if_pos h1,if_pos (by omega)]
  ·rw [if_neg h1,if_neg (by omega)]
def zDg (q:Nat→Int):List Nat→(Nat→Int)→Nat→Int
 |[],z=>z
 |p::ps,z=>zDg q ps (zHa (18+7*p) 7 q z)
theorem zG1 (q:Nat→Int):∀ (ps:List Nat) (p:Nat) (z:Nat→Int),zDg q (ps++[p]) z=zHa (18+7*p) 7 q (zDg q ps z)
 |[],_,_=>rfl
 |_::ps,p,_=>zG1 q ps p _
def zCP (q:Nat→Int):Value:=.agg #[.int .i64 (q 0),.int .i64 (q 1),.int .i64 (q 2),.int .i64 (q 3),.int .i64 (q 4),.int .i64 (q 5),.int .i64 (q 6)]
theorem zBn {α:Type} (l:List α) (j:Nat) (x:α) (h:l[j]? =some x):l.take (j+1)=l.take j++[x]:=by
 rw [List.take_add_one,h]
 rfl
theorem zFn {w:World} {kb sb mb b m:Nat} {cv:Value} {S:Nat→Value} {z q:Nat→Int} {ps:List Nat} (hk:WkIn w kb sb mb cv) (hs:BlkIn w sb 75 106 (zV S z)) (hps:∀ (j p:Nat),ps[j]? =some p→w.cell? ⟨b,j,none⟩=some (.int .i64 p)) (hp4:∀ p∈ps,p<4) (hl:ps.length=m) (hm:m≤4) (hkb:kb≠sb) (hbs:b≠sb):
 Calls Tryz.prog 106 #[.pointer (some ⟨kb,0,none⟩),.slice (some ⟨b,0,none⟩) m m,zCP q] w fun e w'=>e=.returned (.tuple #[])∧BlkIn w' sb 75 106 (zV S (zDg q ps z))∧Only [sb] w w':=by
 obtain ⟨q0,h0⟩:∃ x,x=q 0:=⟨_,rfl⟩;obtain ⟨q1,h1⟩:∃ x,x=q 1:=⟨_,rfl⟩;obtain ⟨q2,h2⟩:∃ x,x=q 2:=⟨_,rfl⟩;obtain ⟨q3,h3⟩:∃ x,x=q 3:=⟨_,rfl⟩;obtain ⟨q4,h4⟩:∃ x,x=q 4:=⟨_,rfl⟩;obtain ⟨q5,h5⟩:∃ x,x=q 5:=⟨_,rfl⟩;obtain ⟨q6,h6⟩:∃ x,x=q 6:=⟨_,rfl⟩;have hv:Value.agg #[.int .i64 q0,.int .i64 q1,.int .i64 q2,.int .i64 q3,.int .i64 q4,.int .i64 q5,.int .i64 q6]=.agg (fnA 7 (fun i=> .int .i64 (q i))):=by rw [h0,h1,h2,h3,h4,h5,h6];rfl
 have HV:=zh hv;unfold zCP;rw [←h0,←h1,←h2,←h3,←h4,←h5,←h6];clear h0 h1 h2 h3 h4 h5 h6 hv;obtain ⟨wA,hwA⟩:∃ wA,wA=w.alloc (.cells #[.int .i64 q0,.int .i64 q1,.int .i64 q2,.int .i64 q3,.int .i64 q4,.int .i64 q5,.int .i64 q6] 45):=⟨_,rfl⟩;have oA:Only [] w wA:=by rw [hwA];exact (Only.refl _ w).alloc _
 have HB:Hid (wA.heap[w.heap.size]? =some (.cells #[.int .i64 q0,.int .i64 q1,.int .i64 q2,.int .i64 q3,.int .i64 q4,.int .i64 q5,.int .i64 q6] 45 (0,0))):=zh (by rw [hwA];exact ZA w _);have hsl:=hs.lt;have HK:Hid (WkIn wA kb sb mb cv):=zh (hk.only oA (by simp));have HS:Hid (BlkIn wA sb 75 106 (zV S z)):=zh (hs.only oA (by simp));have HP:Hid (∀ (j p:Nat),ps[j]? =some p→wA.cell? ⟨b,j,none⟩=some (.int .i64 p)):=zh (fun j p hj=>oA.cell (hps j p hj) (by simp));have HO:=zh oA;have H4:=zh hp4;have HL:=zh hl;have hws:w.heap.size≠sb:=by omega
 clear oA hk hs hps hp4 hl
 go_enter Tryz.func106,Tryz.ntmps106
 go_wp2_with fail
 rw [←hwA];clear hwA
 go_loopw [10] (fun s wx=>∃ j:Nat,j≤m∧s=.int .i64 (j:Int)∧Hid (BlkIn wx sb 75 106 (zV S (zDg q (ps.take j) z))∧Only [sb] wA wx)) (fun s _=>(m-intOf s).toNat)
 case atStart=>exact ⟨0,by omega,rfl,zh ⟨HS.out,Only.refl _ _⟩⟩
 case round=>
  obtain ⟨j,hj,rfl,Hx⟩:=hrel
  by_cases hjm:j<m
  ·obtain ⟨p,hp⟩:∃ p,ps[j]? =some p:=⟨_,List.getElem?_eq_getElem (by rw [HL.out];exact hjm)⟩;have p4:p<4:=H4.out p (List.mem_of_getElem? hp);have p4i:(p:Int)<4:=by omega
   have ox:=Hx.out.2;have k0:=((HK.out.only ox (by simp;exact hkb)).cells).1;have c0:=ox.cell (HP.out j p hp) (by simp;exact hbs);have hbx:=ox.heap HB.out (by simp;exact hws);have v0:=zA hbx 0;have v1:=zA hbx 1;have v2:=zA hbx 2;have v3:=zA hbx 3;have v4:=zA hbx 4;have v5:=zA hbx 5;have v6:=zA hbx 6;have HT:=zh (zBn ps j p hp);have OX:=zh ox;clear hbx ox hp
   go_upto_region 4 with fail
   go_still_tail 10,(by kernel_rfl)
   change wpList _ _ _ _ _ wr.drew
   have hsx:BlkIn wr.drew sb 75 106 (zV S (zDg q (ps.take j) z)):=Hx.out.1;have HOX:Hid (Only [sb] wA wr.drew):=zh OX.out.drew;refine Zj rfl _ _ _ rfl sb (42+p*7) 7 75 (fun i=> .int .i64 (q i)) _ (by rfl) HV.out hsx (by kernel_rfl) (by omega) (fun _=>rfl) fun w2 h2 o2=>?_
   have H2:Hid (BlkIn w2 sb 75 106 (zV S (zDg q (ps.take (j+1)) z))):=zh (by
    rw [show 42+p*7=24+(18+7*p) by omega,zLM] at h2;rw [HT.out,zG1];exact h2)
   have O2:Hid (Only [sb] wA w2):=zh (HOX.out.trans o2);clear h2 o2 hsx
   go_wp2_with fail
   exact ⟨⟨j+1,by omega,rfl,zh ⟨H2.out,O2.out⟩⟩,by simp [intOf];omega⟩
  ·obtain rfl:j=m:=by omega
   go_wp2_with fail
   go_end0
   refine ⟨rfl,?_,(HO.out.mono (by simp)).trans Hx.out.2⟩;have:=Hx.out.1
   rwa [List.take_of_length_le (by rw [HL.out];exact Nat.le_refl _)] at this
def zLC (u:Nat):List Nat→(Nat→Int)→Nat→Int
 |[],z=>z
 |p::ps,z=>zLC u ps (zHa (47+p) 1 (fun _=>u) z)
theorem zHC (u:Nat):∀ (ps:List Nat) (p:Nat) (z:Nat→Int),zLC u (ps++[p]) z=zHa (47+p) 1 (fun _=>u) (zLC u ps z)
 |[],_,_=>rfl
 |_::ps,p,_=>zHC u ps p _
def ofZ:List (List Nat)→Nat→(Nat→Int)→Nat→Int
 |[],_,z=>z
 |ps::us,u,z=>ofZ us (u+1) (zLC u ps z)
theorem zIO:∀ (us:List (List Nat)) (ps:List Nat) (u:Nat) (z:Nat→Int),ofZ (us++[ps]) u z=zLC (u+us.length) ps (ofZ us u z)
 |[],_,_,_=>rfl
 |_::us,ps,u,_=>by
  show ofZ (us++[ps]) (u+1) _=_
  rw [zIO us ps (u+1),List.length_cons,show u+1+us.length=u+(us.length+1) by omega]
  rfl
def zLb (kind:Int) (z:Nat→Int):Nat→Int:=fun i=>if i=0 then kind else if i<47 then 0 else z i
def zw (kind shape:Int) (z:Nat→Int):Nat→Int:=ofZ (ZD shape) 0 (zLb kind z)
theorem zMw (kind:Int) (S:Nat→Value) (z:Nat→Int):upd (zAz 24 46 (fun i=> .int .i64 (if i=0 then kind else 0)) (zV S z)) 70 (.int .i64 0)=zV S (zLb kind z):=by
 funext j
 unfold upd zAz zV zLb
 by_cases h0:j<24
 ·rw [if_neg (by omega),if_neg (by omega),if_pos h0,if_pos h0]
 ·rw [if_neg h0,if_neg h0]
  by_cases h1:j=70
  ·subst h1;rfl
  ·rw [if_neg h1]
   by_cases h2:j<70
   ·rw [if_pos (by omega)]
    by_cases h3:j-24=0
    ·dsimp only;rw [if_pos h3,if_pos h3]
    ·dsimp only;rw [if_neg h3,if_neg h3,if_pos (by omega)]
   ·rw [if_neg (by omega),if_neg (by omega),if_neg (by omega)]
theorem zBD (shape:Int):(ZD shape).length≤4:=by
 unfold ZD
 split
 ·decide
 ·split
  ·decide
  ·split<;>decide
theorem zO (shape:Int):∀ ps∈ZD shape,ps.length≤4∧1≤ps.length∧∀ p∈ps,p<4:=by
 unfold ZD
 split
 ·decide
 ·split
  ·decide
  ·split<;>decide
theorem zGS {w:World} {sb:Nat} {S:Nat→Value} {z:Nat→Int} (kind shape:Int) (hs:BlkIn w sb 75 106 (zV S z)):
 Calls Tryz.prog 105 #[.pointer (some ⟨sb,0,none⟩),.int .i64 kind,.int .i64 shape] w fun e w'=>e=.returned (.tuple #[])∧BlkIn w' sb 75 106 (zV S (zw kind shape z))∧Only [sb] w w':=by
 have hsl:=hs.lt;have ew:∀ w',BlkIn w' sb 75 106 (zAz 24 46 (fun i=> .int .i64 (if i=0 then kind else 0)) (zV S z))→BlkIn (w'.setCell ⟨sb,70,none⟩ (.int .i64 0)) sb 75 106 (zV S (zLb kind z)):=fun w' h=>by
  rw [←zMw];exact h.set 70 _
 have HE:=zh ew;have HS:=zh hs;clear hs ew
 go_enter Tryz.func105,Tryz.ntmps105
 go_wp2_with (refine Zj rfl 103 _ _ rfl sb 24 46 75 (fun i=> .int .i64 (if i=0 then kind else 0)) _ (by rfl) (by rfl) HS.out (by kernel_rfl) (by decide) (fun _=>rfl) fun w1 h1 o1=>?_;have f70:=h1.free 70;have c70:=h1.cell 70 (by decide);have HS1:=zh (HE.out _ h1);have HO1:Hid (Only [sb] w (w1.setCell ⟨sb,70,none⟩ (.int .i64 0))):=zh (o1.setCell (.inl (by simp)) _);clear h1 o1)
 clear f70 c70;generalize w1.setCell ⟨sb,70,none⟩ (.int .i64 0)=w2 at HS1 HO1 ⊢;refine (zGL shape _).mono ?_;rintro e w3 ⟨v,rfl,U,hU,hUw,o3⟩;have us:=zO shape;have ul:=zBD shape;obtain ⟨un,hun⟩:∃ un,un=ZD shape:=⟨_,rfl⟩;rw [←hun] at hU us ul;have HN:Hid (zw kind shape z=ofZ un 0 (zLb kind z)):=zh (by rw [hun];rfl);obtain ⟨g,hg,rfl,hgs⟩:=hU.sl;have HU:=zh hU;have HGS:=zh hgs;have hsb:∀ i∈U,i≠sb:=fun i hi=>by have:=hUw i hi;have:=HO1.out.size;omega
 have HSB:=zh hsb;have HS3:=zh (HS1.out.only o3 (by simp));have HO3:=zh (HO1.out.trans (o3.mono (by simp)));have US:=zh us;obtain ⟨m,hm⟩:∃ m,m=un.length:=⟨_,rfl⟩;rw [←hm] at ul ⊢;have HM:=zh hm;have HG:=zh hg;clear hun hU hgs hsb us hUw o3 HS1 HO1 HE HS hm hg
 go_wp2_with fail
 go_loopw [21] (fun s wx=>∃ i:Nat,i≤m∧s=.int .i64 (i:Int)∧Hid (BlkIn wx sb 75 106 (zV S (ofZ (un.take i) 0 (zLb kind z)))∧Only [sb] w3 wx)) (fun s _=>(m-intOf s).toNat)
 case atStart=>exact ⟨0,by omega,rfl,zh ⟨HS3.out,Only.refl _ _⟩⟩
 case round=>
  obtain ⟨i,hi,rfl,Hx⟩:=hrel
  by_cases him:i<m
  ·obtain ⟨ps,hp⟩:∃ ps,un[i]? =some ps:=⟨_,List.getElem?_eq_getElem (by rw [←HM.out];exact him)⟩;obtain ⟨b,hb,c0,c1⟩:=HGS.out i ps hp;have hbs:=HSB.out b hb;have c0:=Hx.out.2.cell c0 (by simp;exact HSB.out g HG.out);have HC:Hid (∀ (j p:Nat),ps[j]? =some p→wr.cell? ⟨b,j,none⟩=some (.int .i64 p)):=zh (fun j p hj=>Hx.out.2.cell (c1 j p hj) (by simp;exact hbs));have hpl:=(US.out ps (List.mem_of_getElem? hp)).1;have HP:=zh (US.out ps (List.mem_of_getElem? hp)).2.2;have HT:Hid (ofZ (un.take (i+1)) 0 (zLb kind z)=zLC i ps (ofZ (un.take i) 0 (zLb kind z))):=zh (by
    rw [zBn un i ps hp,zIO,List.length_take,show 0+min i un.length=i by have:=HM.out;omega])
   obtain ⟨zi,hzi⟩:∃ q,q=ofZ (un.take i) 0 (zLb kind z):=⟨_,rfl⟩;rw [←hzi] at Hx HT;obtain ⟨m2,hm2⟩:∃ m2,m2=ps.length:=⟨_,rfl⟩;rw [←hm2] at c0 hpl;have HM2:=zh hm2;clear c1 hp hzi hm2
   go_wp2_with fail
   clear c0
   go_loopw [28] (fun s wx=>∃ j:Nat,j≤m2∧s=.int .i64 (j:Int)∧Hid (BlkIn wx sb 75 106 (zV S (zLC i (ps.take j) zi))∧Only [sb] wr wx)) (fun s _=>(m2-intOf s).toNat)
   case atStart=>exact ⟨0,by omega,rfl,zh ⟨Hx.out.1,Only.refl _ _⟩⟩
   case round=>
    obtain ⟨j,hj,rfl,Hy⟩:=hrel
    by_cases hjm:j<m2
    ·obtain ⟨p,hp⟩:∃ p,ps[j]? =some p:=⟨_,List.getElem?_eq_getElem (by rw [←HM2.out];exact hjm)⟩;have p4:p<4:=HP.out p (List.mem_of_getElem? hp);have p4i:(p:Int)<4:=by omega
     have c0:=Hy.out.2.cell (HC.out j p hp) (by simp;exact hbs);have c1:=Hy.out.1.cell (71+p) (by omega);have f1:=Hy.out.1.free (71+p);have H2:=zh (Hy.out.1.set (71+p) (.int .i64 i));rw [show 71+p=24+(47+p) by omega,zJf] at H2;have HT2:Hid (zLC i (ps.take (j+1)) zi=zHa (47+p) 1 (fun _=>(i:Int)) (zLC i (ps.take j) zi)):=zh (by rw [zBn ps j p hp,zHC]);rw [←HT2.out,show 24+(47+p)=71+p by omega] at H2;have O2:=zh (Hy.out.2.setCell (p:=⟨sb,71+p,none⟩) (.inl (by simp)) (.int .i64 i));clear hp
     go_wp2_with fail
     exact ⟨⟨j+1,by omega,rfl,zh ⟨H2.out,O2.out⟩⟩,by simp [intOf];omega⟩
    ·obtain rfl:j=m2:=by omega
     have hz:=Hy.out.1;rw [List.take_of_length_le (by rw [←HM2.out];exact Nat.le_refl _),←HT.out] at hz;have HZ:=zh hz;have HZO:=zh (Hx.out.2.trans Hy.out.2);clear hz
     go_wp2_with fail
     exact ⟨⟨i+1,by omega,rfl,zh ⟨HZ.out,HZO.out⟩⟩,by simp [intOf];omega⟩
  ·obtain rfl:i=m:=by omega
   go_wp2_with fail
   go_end0
   refine ⟨rfl,?_,HO3.out.trans Hx.out.2⟩;have:=Hx.out.1
   rwa [List.take_of_length_le (by rw [←HM.out];exact Nat.le_refl _),←HN.out] at this
theorem MotIn.turn {w w':World} {sb f wide n:Nat} {S:Nat→Value} {ds:List DoneP} {z z':Nat→Int} (h:MotIn w sb (zV S z) f wide n ds z) (hs:BlkIn w' sb 75 106 (zV S z')) (ho:Only [sb] w w'):MotIn w' sb (zV S z') f wide n ds z' where
 s:={
  s:=hs
  h0:=h.s.h0
  h21:=h.s.h21
  a:=zF h.s.a fun g hg=>by
   obtain ⟨cur,hc⟩:=zD h.s.a hg;refine ho.block g (lt_of_block hc) ?_;simp only [List.mem_singleton];rintro rfl;have h1:=h.s.s;unfold BlkIn at h1;rw [h1] at hc;simp at hc
  bf:=h.s.bf
  bw:=h.s.bw
  bn:=h.s.bn }
 len:=h.len
 z:=fun i _=>zB4 S z' i
def zJk (a b c:Int×Int×Int):Int×Int:=
 (zB1 (a.1 != -2) (b.1 != -2) a.1 b.1 a.2.1 a.2.2 b.2.1 b.2.2 (zBN a.1 b.1 c.1 a.2.1 b.2.1 c.2.1 0 (-1)),zB1 (a.1 != -2) (b.1 != -2) a.1 b.1 a.2.1 a.2.2 b.2.1 b.2.2 (zBN a.1 b.1 c.1 a.2.2 b.2.2 c.2.2 0 (-1)))
def zK6 (v:Int×Int):Nat→Int:=fun i=>if i=2 then -1 else if i=3 then v.1 else if i=4 then v.2 else 0
theorem zIu {w:World} {sb f wide n:Nat} {S:Nat→Value} {ds:List DoneP} {z:Nat→Int} (h:MotIn w sb (zV S z) f wide n ds z):
 Calls Tryz.prog 102 #[.pointer (some ⟨sb,0,none⟩)] w fun e w'=>
  e=.returned (zCP (zK6 (zJk (nbA ds f wide n (zw 3 0 z) 0 0) (nbB ds f wide n (zw 3 0 z) 0 0) (nbC ds f wide n (zw 3 0 z) 0 0 2))))∧BlkIn w' sb 75 106 (zV S (zw 3 0 z))∧Only [sb] w w':=by
 have hsl:=h.s.s.lt;obtain ⟨z',hz⟩:∃ q,q=zw 3 0 z:=⟨_,rfl⟩;have hen:∀ wx,Only [] w wx→Calls Tryz.prog 105 #[.pointer (some ⟨sb,0,none⟩),.int .i64 3,.int .i64 0] wx fun e w'=>e=.returned (.tuple #[])∧BlkIn w' sb 75 106 (zV S z')∧Only [sb] wx w':=fun wx ho=>by rw [hz];exact zGS 3 0 (h.s.s.only ho (by simp))
 rw [←hz];obtain ⟨a,ha⟩:∃ q,q=nbA ds f wide n z' 0 0:=⟨_,rfl⟩;obtain ⟨b,hb⟩:∃ q,q=nbB ds f wide n z' 0 0:=⟨_,rfl⟩;obtain ⟨c,hc⟩:∃ q,q=nbC ds f wide n z' 0 0 2:=⟨_,rfl⟩;have hnb:∀ wx,BlkIn wx sb 75 106 (zV S z')→Only [sb] w wx→Calls Tryz.prog 138 #[.pointer (some ⟨sb,0,none⟩),.int .i64 0,.int .i64 2,.int .i64 0] wx fun e w'=>e=.returned (.tuple #[zGV a b c,zLH a b c])∧Only [] wx w':=fun wx hs ho=>by
  rw [ha,hb,hc];exact zEX (h.turn hs ho) 0 (by decide) 0 2 (by decide) (by decide)
 rw [←ha,←hb,←hc];have HE:=zh hen;have HN:=zh hnb;clear hen hnb ha hb hc hz h;obtain ⟨r0,x0,y0⟩:=a;obtain ⟨r1,x1,y1⟩:=b;obtain ⟨r2,x2,y2⟩:=c;have hA:=zh (ZA w (.cells #[.int .i64 0,.int .i64 0,.int .i64 0,.int .i64 0,.int .i64 0,.int .i64 0,.int .i64 0] 45));have HO:Hid (Only [] w (w.alloc (.cells #[.int .i64 0,.int .i64 0,.int .i64 0,.int .i64 0,.int .i64 0,.int .i64 0,.int .i64 0] 45))):=zh ((Only.refl [] w).alloc _)
 go_enter Tryz.func102,Tryz.ntmps102
 go_wp2_with fail
 generalize w.alloc (.cells #[.int .i64 0,.int .i64 0,.int .i64 0,.int .i64 0,.int .i64 0,.int .i64 0,.int .i64 0] 45)=wA at hA HO ⊢;refine (HE.out _ HO.out).mono ?_;rintro e w1 ⟨rfl,hs1,o1⟩;have HS1:=zh hs1;have HA1:=zh (o1.heap hA.out (by simp;omega));have HO1:=zh ((HO.out.mono (by simp)).trans o1);clear hs1 o1 hA HO
 go_wp2_with fail
 refine (HN.out _ HS1.out HO1.out).mono ?_;rintro e w2 ⟨rfl,o2⟩;unfold zGV zLH;have HS2:=zh (HS1.out.only o2 (by simp));have HA2:=zh (o2.heap HA1.out (by simp));have HO2:=zh (HO1.out.trans (o2.mono (by simp)));clear o2 HS1 HA1 HO1
 go_wp2_with fail
 have hO3:Only [] w2 ((w2.alloc (.cells #[.int .i64 r0,.int .i64 r1,.int .i64 r2] 188)).alloc (.cells #[.int .i64 x0,.int .i64 y0,.int .i64 x1,.int .i64 y1,.int .i64 x2,.int .i64 y2] 238)):=((Only.refl _ _).alloc _).alloc _;refine (zMj (h0:=r0 != -2) (h1:=r1 != -2)).mono ?_;rintro e w3 ⟨rfl,o3⟩;obtain ⟨v,hv⟩:∃ v,v=zJk (r0,x0,y0) (r1,x1,y1) (r2,x2,y2):=⟨_,rfl⟩;have HV:=zh hv;have e0:zB1 (r0 != -2) (r1 != -2) r0 r1 x0 y0 x1 y1 (zBN r0 r1 r2 x0 x1 x2 0 (-1))=v.1:=by rw [hv];rfl
 have e1:zB1 (r0 != -2) (r1 != -2) r0 r1 x0 y0 x1 y1 (zBN r0 r1 r2 y0 y1 y2 0 (-1))=v.2:=by rw [hv];rfl
 rw [e0,e1];clear hv e0 e1;obtain ⟨vx,vy⟩:=v;dsimp only;have hO3:=hO3.trans o3;have HS3:=zh (HS2.out.only hO3 (by simp));have hA3:=hO3.heap HA2.out (by simp);have HO3:=zh (HO2.out.trans (hO3.mono (by simp)));clear o3 hO3 HS2 HA2 HO2;have hA4:=ZE (.cells #[.int .i64 vx,.int .i64 vy] 42) hA3;have v0:=zA hA4 0;have v1:=zA hA4 1;have v2:=zA hA4 2;have v3:=zA hA4 3;have v4:=zA hA4 4;have v5:=zA hA4 5;have v6:=zA hA4 6;have f0:=ZB hA4 0;have f1:=ZB hA4 1;have f2:=ZB hA4 2;have f3:=ZB hA4 3;have f4:=ZB hA4 4;have f5:=ZB hA4 5;have f6:=ZB hA4 6;have HA4:=zh hA4;clear hA3 hA4;have b0:=ZA w3 (.cells #[.int .i64 vx,.int .i64 vy] 42);have g0:=zA b0 0;have g1:=zA b0 1;clear b0
 go_wp2_with fail
 refine ZU rfl w.heap.size rfl (zB (i:=6) _ (zB (i:=5) _ (zB (i:=4) _ (zB (i:=3) _ (zB (i:=2) _ (zB (i:=1) _ (zB (i:=0) _ HA4.out))))))) Tryz.underlying45 rfl (by kernel_rfl) rfl ⟨?_,((((((((HS3.out.only ((Only.refl [] _).alloc _) (by simp)).other 0 _ (by omega)).other 1 _ (by omega)).other 2 _ (by omega)).other 3 _ (by omega)).other 4 _ (by omega)).other 5 _ (by omega)).other 6 _ (by omega)),((((((((HO3.out.alloc _).setCell (.inr (by simp)) _).setCell (.inr (by simp)) _).setCell (.inr (by simp)) _).setCell (.inr (by simp)) _).setCell (.inr (by simp)) _).setCell (.inr (by simp)) _).setCell (.inr (by simp)) _)⟩;rw [←HV.out]
 rfl
def zLv (a b c:Int×Int×Int):Int:=zBp a.1 b.1 c.1 3
def mvT (a b c:Int×Int×Int):Int×Int:=if 0≤zLv a b c then (zBN a.1 b.1 c.1 a.2.1 b.2.1 c.2.1 (zLv a b c) (-1),zBN a.1 b.1 c.1 a.2.2 b.2.2 c.2.2 (zLv a b c) (-1)) else (0,0)
def zHZ (d r0 r1 x0 y0 x1 y1:Int):Nat→Int:=fun i=>if i=0 then d else if i=1 then r0 else if i=2 then r1 else if i=3 then x0 else if i=4 then y0 else if i=5 then x1 else if i=6 then y1 else 0
def zIr (sp:Bool) (r0 r1:Int) (v0 v1:Int×Int):Nat→Int:=
 if sp=false then zHZ 2 0 0 0 0 0 0 else if r0<0∧r1<0 then zHZ 2 0 0 0 0 0 0
 else if r1<0 then zHZ 0 r0 r1 v0.1 v0.2 v1.1 v1.2 else if r0<0 then zHZ 1 r0 r1 v0.1 v0.2 v1.1 v1.2 else zHZ 2 r0 r1 v0.1 v0.2 v1.1 v1.2
def zND (ds:List DoneP) (f wide n:Nat) (z:Nat→Int) (sp:Bool):Nat→Int:=
 zIr sp (zLv (nbA ds f wide n z 0 0) (nbB ds f wide n z 0 0) (nbC ds f wide n z 0 0 2)) (zLv (nbA ds f wide n z 1 0) (nbB ds f wide n z 1 0) (nbC ds f wide n z 1 0 2))
  (mvT (nbA ds f wide n z 0 0) (nbB ds f wide n z 0 0) (nbC ds f wide n z 0 0 2)) (mvT (nbA ds f wide n z 1 0) (nbB ds f wide n z 1 0) (nbC ds f wide n z 1 0 2))
theorem zAA {w:World} {g:Nat} {t:TypeId} {L:List Value} (h:w.heap[g]? =some (.cells L.toArray t (0,0))):w.rangeAt g 0 L:=fun j v hj=>by
 rw [Nat.zero_add,zA h]
 simpa using hj
theorem zC1 {w:World} {sb f wide n:Nat} {S:Nat→Value} {ds:List DoneP} {z:Nat→Int} {sp:Bool} (h:MotIn w sb (zV S z) f wide n ds z) (h6:S 6=.bool sp):
 Calls Tryz.prog 103 #[.pointer (some ⟨sb,0,none⟩)] w fun e w'=>
  e=.returned (zCP (zND ds f wide n (zw 5 0 z) sp))∧BlkIn w' sb 75 106 (zV S (zw 5 0 z))∧Only [sb] w w':=by
 have hsl:=h.s.s.lt;obtain ⟨z',hz⟩:∃ q,q=zw 5 0 z:=⟨_,rfl⟩;have hen:∀ wx,Only [] w wx→Calls Tryz.prog 105 #[.pointer (some ⟨sb,0,none⟩),.int .i64 5,.int .i64 0] wx fun e w'=>e=.returned (.tuple #[])∧BlkIn w' sb 75 106 (zV S z')∧Only [sb] wx w':=fun wx ho=>by rw [hz];exact zGS 5 0 (h.s.s.only ho (by simp))
 rw [←hz];unfold zND;obtain ⟨a0,ha0⟩:∃ q,q=nbA ds f wide n z' 0 0:=⟨_,rfl⟩;obtain ⟨b0,hb0⟩:∃ q,q=nbB ds f wide n z' 0 0:=⟨_,rfl⟩;obtain ⟨c0,hc0⟩:∃ q,q=nbC ds f wide n z' 0 0 2:=⟨_,rfl⟩;obtain ⟨a1,ha1⟩:∃ q,q=nbA ds f wide n z' 1 0:=⟨_,rfl⟩;obtain ⟨b1,hb1⟩:∃ q,q=nbB ds f wide n z' 1 0:=⟨_,rfl⟩;obtain ⟨c1,hc1⟩:∃ q,q=nbC ds f wide n z' 1 0 2:=⟨_,rfl⟩;have hnb0:∀ wx,BlkIn wx sb 75 106 (zV S z')→Only [sb] w wx→Calls Tryz.prog 138 #[.pointer (some ⟨sb,0,none⟩),.int .i64 0,.int .i64 2,.int .i64 0] wx fun e w'=>e=.returned (.tuple #[zGV a0 b0 c0,zLH a0 b0 c0])∧Only [] wx w':=fun wx hs ho=>by
  rw [ha0,hb0,hc0];exact zEX (h.turn hs ho) 0 (by decide) 0 2 (by decide) (by decide)
 have HN0:=zh hnb0;have hnb1:∀ wx,BlkIn wx sb 75 106 (zV S z')→Only [sb] w wx→Calls Tryz.prog 138 #[.pointer (some ⟨sb,0,none⟩),.int .i64 0,.int .i64 2,.int .i64 1] wx fun e w'=>e=.returned (.tuple #[zGV a1 b1 c1,zLH a1 b1 c1])∧Only [] wx w':=fun wx hs ho=>by
  rw [ha1,hb1,hc1];exact zEX (h.turn hs ho) 1 (by decide) 0 2 (by decide) (by decide)
 have HN1:=zh hnb1;rw [←ha0,←hb0,←hc0,←ha1,←hb1,←hc1];have h6c:∀ wx,BlkIn wx sb 75 106 (zV S z')→wx.cell? ⟨sb,6,none⟩=some (.bool sp):=fun wx hs=>by rw [hs.cell 6 (by decide),zI S z' (by decide),h6]
 have H6:=zh h6c;have HE:=zh hen;clear hen hnb0 hnb1 ha0 hb0 hc0 ha1 hb1 hc1 hz h h6 h6c;obtain ⟨r0,hr0⟩:∃ q,q=zLv a0 b0 c0:=⟨_,rfl⟩;obtain ⟨v0,hv0⟩:∃ q,q=mvT a0 b0 c0:=⟨_,rfl⟩;obtain ⟨r1,hr1⟩:∃ q,q=zLv a1 b1 c1:=⟨_,rfl⟩;obtain ⟨v1,hv1⟩:∃ q,q=mvT a1 b1 c1:=⟨_,rfl⟩;rw [←hr0,←hv0,←hr1,←hv1];have HR0:=zh hr0;have HV0:=zh hv0;have HR1:=zh hr1;have HV1:=zh hv1;clear hr0 hv0 hr1 hv1;obtain ⟨x0,y0⟩:=v0;obtain ⟨x1,y1⟩:=v1;have hA:=zh (ZA w (.cells #[.int .i64 0,.int .i64 0,.int .i64 0,.int .i64 0,.int .i64 0,.int .i64 0,.int .i64 0] 45));have HO:Hid (Only [] w (w.alloc (.cells #[.int .i64 0,.int .i64 0,.int .i64 0,.int .i64 0,.int .i64 0,.int .i64 0,.int .i64 0] 45))):=zh ((Only.refl [] w).alloc _)
 go_enter Tryz.func103,Tryz.ntmps103
 go_wp2_with fail
 generalize w.alloc (.cells #[.int .i64 0,.int .i64 0,.int .i64 0,.int .i64 0,.int .i64 0,.int .i64 0,.int .i64 0] 45)=wA at hA HO ⊢;refine (HE.out _ HO.out).mono ?_;rintro e w1 ⟨rfl,hs1,o1⟩;have HS1:=zh hs1;have HA1:=zh (o1.heap hA.out (by simp;omega));have HO1:=zh ((HO.out.mono (by simp)).trans o1);have hz1:w.heap.size<w1.heap.size:=lt_of_block HA1.out;have s6:=H6.out _ (hs1.only ((Only.refl [] w1).alloc (.cells #[.int .i64 2,.int .i64 0,.int .i64 0,.int .i64 0,.int .i64 0,.int .i64 0,.int .i64 0] 45)) (by simp));have hP:=ZA w1 (.cells #[.int .i64 2,.int .i64 0,.int .i64 0,.int .i64 0,.int .i64 0,.int .i64 0,.int .i64 0] 45);have oP:Only [] w1 (w1.alloc (.cells #[.int .i64 2,.int .i64 0,.int .i64 0,.int .i64 0,.int .i64 0,.int .i64 0,.int .i64 0] 45)):=(Only.refl [] w1).alloc _;clear hs1 o1 hA HO;have HP2:=zh hP;have HA2:=zh (oP.heap HA1.out (by simp))
 have HS2:=zh (HS1.out.only oP (by simp));have HO2:=zh (HO1.out.trans (oP.mono (by simp)));have hsb1:=HS1.out.lt;obtain ⟨pb,hpb⟩:∃ q,q=w1.heap.size:=⟨_,rfl⟩
 go_upto_region 3 with fail
 rw [←hpb] at hz1 hsb1 HP2;clear hP oP HA1 HS1 HO1;generalize w1.alloc (.cells #[.int .i64 2,.int .i64 0,.int .i64 0,.int .i64 0,.int .i64 0,.int .i64 0,.int .i64 0] 45)=w2 at s6 HP2 HA2 HS2 HO2 ⊢;rw [←hpb];clear hpb;have hpw:w.heap.size≠pb:=by omega
 have hps:pb≠sb:=by omega
 have hss:sb≠w.heap.size:=by omega
 have Hfin:Hid (∀ (wx:World) (d k0 k1 m0 n0 m1 n1:Int),Only [pb] w2 wx→
  ((((((((wx.setCell ⟨w.heap.size,0,none⟩ (.int .i64 d)).setCell ⟨w.heap.size,1,none⟩ (.int .i64 k0)).setCell ⟨w.heap.size,2,none⟩ (.int .i64 k1)).setCell ⟨w.heap.size,3,none⟩ (.int .i64 m0)).setCell ⟨w.heap.size,4,none⟩ (.int .i64 n0)).setCell ⟨w.heap.size,5,none⟩ (.int .i64 m1)).setCell ⟨w.heap.size,6,none⟩ (.int .i64 n1)).heap[w.heap.size]? =some (.cells #[.int .i64 d,.int .i64 k0,.int .i64 k1,.int .i64 m0,.int .i64 n0,.int .i64 m1,.int .i64 n1] 45 (0,0)))∧
  BlkIn (((((((wx.setCell ⟨w.heap.size,0,none⟩ (.int .i64 d)).setCell ⟨w.heap.size,1,none⟩ (.int .i64 k0)).setCell ⟨w.heap.size,2,none⟩ (.int .i64 k1)).setCell ⟨w.heap.size,3,none⟩ (.int .i64 m0)).setCell ⟨w.heap.size,4,none⟩ (.int .i64 n0)).setCell ⟨w.heap.size,5,none⟩ (.int .i64 m1)).setCell ⟨w.heap.size,6,none⟩ (.int .i64 n1)) sb 75 106 (zV S z')∧
  Only [sb] w (((((((wx.setCell ⟨w.heap.size,0,none⟩ (.int .i64 d)).setCell ⟨w.heap.size,1,none⟩ (.int .i64 k0)).setCell ⟨w.heap.size,2,none⟩ (.int .i64 k1)).setCell ⟨w.heap.size,3,none⟩ (.int .i64 m0)).setCell ⟨w.heap.size,4,none⟩ (.int .i64 n0)).setCell ⟨w.heap.size,5,none⟩ (.int .i64 m1)).setCell ⟨w.heap.size,6,none⟩ (.int .i64 n1))):=zh (fun wx d k0 k1 m0 n0 m1 n1 ho=>
  ⟨(zB (i:=6) _ (zB (i:=5) _ (zB (i:=4) _ (zB (i:=3) _ (zB (i:=2) _ (zB (i:=1) _ (zB (i:=0) _ (ho.heap HA2.out (by simp;exact hpw))))))))),((((((((HS2.out.only ho (by simp;exact hps.symm)).other 0 _ hss).other 1 _ hss).other 2 _ hss).other 3 _ hss).other 4 _ hss).other 5 _ hss).other 6 _ hss),((((((((HO2.out.trans' ho (by simp;omega)).setCell (.inr (by simp)) _).setCell (.inr (by simp)) _).setCell (.inr (by simp)) _).setCell (.inr (by simp)) _).setCell (.inr (by simp)) _).setCell (.inr (by simp)) _).setCell (.inr (by simp)) _)⟩)
 cases sp with
 |false=>
  have pc0:=zA (HP2.out) 0;have pf0:=ZB (HP2.out) 0;have pc1:=zA (HP2.out) 1;have pf1:=ZB (HP2.out) 1;have pc2:=zA (HP2.out) 2;have pf2:=ZB (HP2.out) 2;have pc3:=zA (HP2.out) 3;have pf3:=ZB (HP2.out) 3;have pc4:=zA (HP2.out) 4;have pf4:=ZB (HP2.out) 4;have pc5:=zA (HP2.out) 5;have pf5:=ZB (HP2.out) 5;have pc6:=zA (HP2.out) 6;have pf6:=ZB (HP2.out) 6;have qc0:=zA (HA2.out) 0;have qf0:=ZB (HA2.out) 0;have qc1:=zA (HA2.out) 1;have qf1:=ZB (HA2.out) 1;have qc2:=zA (HA2.out) 2;have qf2:=ZB (HA2.out) 2;have qc3:=zA (HA2.out) 3;have qf3:=ZB (HA2.out) 3;have qc4:=zA (HA2.out) 4;have qf4:=ZB (HA2.out) 4;have qc5:=zA (HA2.out) 5;have qf5:=ZB (HA2.out) 5;have qc6:=zA (HA2.out) 6;have qf6:=ZB (HA2.out) 6
  go_wp2_with fail
  refine ZU rfl w.heap.size rfl (Hfin.out _ 2 0 0 0 0 0 0 (Only.refl _ _)).1 Tryz.underlying45 rfl (by kernel_rfl) rfl ⟨rfl,(Hfin.out _ 2 0 0 0 0 0 0 (Only.refl _ _)).2⟩
 |true=>
  go_wp2_with fail
  go_loopw [17] (fun q wx=>∃ i:Nat,i≤2∧q=.int .i64 (i:Int)∧Hid (wx.heap[pb]? =some (.cells (if i=0 then #[.int .i64 2,.int .i64 0,.int .i64 0,.int .i64 0,.int .i64 0,.int .i64 0,.int .i64 0] else if i=1 then #[.int .i64 2,.int .i64 r0,.int .i64 0,.int .i64 x0,.int .i64 y0,.int .i64 0,.int .i64 0] else #[.int .i64 2,.int .i64 r0,.int .i64 r1,.int .i64 x0,.int .i64 y0,.int .i64 x1,.int .i64 y1]) 45 (0,0))∧Only [pb] w2 wx)) (fun q _=>(2-intOf q).toNat)
  case atStart=>exact ⟨0,by decide,rfl,zh ⟨HP2.out,Only.refl _ _⟩⟩
  case round=>
   obtain ⟨i,hi,rfl,Hi⟩:=hrel;obtain rfl|rfl|rfl:i=0∨i=1∨i=2:=by omega
   ·have hp:wr.heap[pb]? =some (.cells #[.int .i64 2,.int .i64 0,.int .i64 0,.int .i64 0,.int .i64 0,.int .i64 0,.int .i64 0] 45 (0,0)):=Hi.out.1;have HPr:=zh hp;have OR:=zh Hi.out.2;have HSr:=zh (HS2.out.only OR.out (by simp;exact hps.symm));have HOr:Hid (Only [sb] w wr):=zh (HO2.out.trans' OR.out (by simp;omega));clear hp Hi
    go_wp2_with fail
    refine (HN0.out _ HSr.out HOr.out).mono ?_;rintro e w3 ⟨rfl,o3⟩;obtain ⟨ar,ax,ay⟩:=a0;obtain ⟨br,bx,bY⟩:=b0;obtain ⟨cr,cx,cy⟩:=c0;unfold zGV zLH;have hp3:=o3.heap HPr.out (by simp);have OR3:=zh (OR.out.trans (o3.mono (by simp)));have hz3:pb<w3.heap.size:=lt_of_block hp3;clear HPr OR HSr HOr;obtain ⟨w5,hw5⟩:∃ w5,w5=(w3.alloc (.cells #[.int .i64 ar,.int .i64 br,.int .i64 cr] 188)).alloc (.cells #[.int .i64 ax,.int .i64 ay,.int .i64 bx,.int .i64 bY,.int .i64 cx,.int .i64 cy] 238):=⟨_,rfl⟩;have o5:Only [] w3 w5:=by rw [hw5];exact ((Only.refl _ _).alloc _).alloc _
    have R5:Hid (w5.heap[w3.heap.size]? =some (.cells #[.int .i64 ar,.int .i64 br,.int .i64 cr] 188 (0,0))):=zh (by rw [hw5];exact ZE _ (ZA w3 _));have V5:Hid (w5.heap[w3.heap.size+1]? =some (.cells #[.int .i64 ax,.int .i64 ay,.int .i64 bx,.int .i64 bY,.int .i64 cx,.int .i64 cy] 238 (0,0))):=zh (by
     rw [hw5];have:=ZA (w3.alloc (.cells #[.int .i64 ar,.int .i64 br,.int .i64 cr] 188)) (.cells #[.int .i64 ax,.int .i64 ay,.int .i64 bx,.int .i64 bY,.int .i64 cx,.int .i64 cy] 238)
     simpa using this)
    have HP5:=zh (o5.heap hp3 (by simp));have OR5:=zh (OR3.out.trans (o5.mono (by simp)));clear o5 hp3 OR3 o3
    go_wp2_with fail
    rw [←hw5];clear hw5;refine di_refs.mono ?_;rintro e w6 ⟨rfl,o6⟩;have hp6:=o6.heap HP5.out (by simp);have R6:=zh (o6.heap R5.out (by simp));have V6:=zh (o6.heap V5.out (by simp));have OR6:=zh (OR5.out.trans (o6.mono (by simp)));have er:zBp ar br cr 3=r0:=HR0.out.symm;rw [er];have g0:=zA hp6 1;have g1:=ZB hp6 1;have HP7:Hid ((w6.setCell ⟨pb,1,none⟩ (.int .i64 r0)).heap[pb]? =some (.cells #[.int .i64 2,.int .i64 r0,.int .i64 0,.int .i64 0,.int .i64 0,.int .i64 0,.int .i64 0] 45 (0,0))):=zh (zB (i:=1) _ hp6);have R7:Hid ((w6.setCell ⟨pb,1,none⟩ (.int .i64 r0)).heap[w3.heap.size]? =_):=zh (zC _ R6.out (by omega));have V7:Hid ((w6.setCell ⟨pb,1,none⟩ (.int .i64 r0)).heap[w3.heap.size+1]? =_):=zh (zC _ V6.out (by omega));have OR7:=zh (OR6.out.setCell (p:=⟨pb,1,none⟩) (.inl (by simp)) (.int .i64 r0));clear hp6 o6 HP5 R5 V5 OR5 R6 V6 OR6
    go_upto_region 10 with fail
    clear g0 g1 er;generalize w6.setCell ⟨pb,1,none⟩ (.int .i64 r0)=w7 at HP7 R7 V7 OR7 ⊢;have g0:=zA HP7.out 1
    by_cases hr:0≤r0
    ·have bb:decide (0≤r0)=true:=decide_eq_true hr;have hxy:x0=zBN ar br cr ax bx cx r0 (-1)∧y0=zBN ar br cr ay bY cy r0 (-1):=by
      have h9:=HV0.out;unfold mvT at h9;rw [←HR0.out,if_pos hr] at h9;exact Prod.mk.inj h9
     have HXY:=zh hxy;clear hxy
     go_upto_region 11 with fail
     have hSr:(fun w':World=>w'.rangeAt w3.heap.size 0 [.int .i64 ar,.int .i64 br,.int .i64 cr]∧w'.rangeAt (w3.heap.size+1) 0 [.int .i64 ax,.int .i64 ay,.int .i64 bx,.int .i64 bY,.int .i64 cx,.int .i64 cy]∧w'.cell? ⟨pb,1,none⟩=some (.int .i64 r0)) w7.drew:=⟨zAA R7.out,zAA V7.out,g0⟩;refine zH (by kernel_rfl) (fun w':World=>w'.rangeAt w3.heap.size 0 [.int .i64 ar,.int .i64 br,.int .i64 cr]∧w'.rangeAt (w3.heap.size+1) 0 [.int .i64 ax,.int .i64 ay,.int .i64 bx,.int .i64 bY,.int .i64 cx,.int .i64 cy]∧w'.cell? ⟨pb,1,none⟩=some (.int .i64 r0)) 10 ?_;have hS0:=hSr;refine AnyL.tk 0 (h:=?_);refine AnyL.tl 1 rfl (yieldsIf_load_mid (by rfl) _ _ rfl w3.heap.size 0 rfl [.int .i64 ar,.int .i64 br,.int .i64 cr] _ (fun w' h=>h.1) Tryz.underlying188 rfl (by kernel_rfl)) ?_
     refine AnyL.tl 2 rfl (yieldsIf_load_mid (by rfl) _ _ rfl (w3.heap.size+1) 0 rfl [.int .i64 ax,.int .i64 ay,.int .i64 bx,.int .i64 bY,.int .i64 cx,.int .i64 cy] _ (fun w' h=>h.2.1) Tryz.underlying238 rfl (by kernel_rfl)) ?_;refine AnyL.tk 3 (h:=?_);refine AnyL.tk 4 (h:=?_);refine AnyL.tk 5 (h:=?_);refine AnyL.tk 6 (h:=?_);refine AnyL.tk 8 (h:=?_);refine AnyL.on 7 (h:=fun K hK=>?_);go_simp;refine (zBq (shape:=0) (part:=0) (by omega)).mono ?_;rintro e w8 ⟨rfl,o8⟩;rw [show zBM 0 0=-1 from rfl,←HXY.out.1,←HXY.out.2];have hp8:=o8.heap (show w7.drew.heap[pb]? =_ from HP7.out) (by simp)
     have hS1:(fun w':World=>w'.rangeAt w3.heap.size 0 [.int .i64 ar,.int .i64 br,.int .i64 cr]∧w'.rangeAt (w3.heap.size+1) 0 [.int .i64 ax,.int .i64 ay,.int .i64 bx,.int .i64 bY,.int .i64 cx,.int .i64 cy]∧w'.cell? ⟨pb,1,none⟩=some (.int .i64 r0)) w8:=⟨zAA (o8.heap (show w7.drew.heap[w3.heap.size]? =_ from R7.out) (by simp)),zAA (o8.heap (show w7.drew.heap[w3.heap.size+1]? =_ from V7.out) (by simp)),zA hp8 1⟩;have q0:=zA hp8 3;have q1:=zA hp8 4;have q2:=ZB hp8 3;have q3:=ZB hp8 4;have HP8:=zh hp8;have OR8:Hid (Only [pb] w2 w8):=zh (OR7.out.drew.trans (o8.mono (by simp)));clear hp8 o8;refine hK _ _ (fun _=>hS1) (fun hKq=>?_);clear hK K hKq
     try simp only [zpt]
     refine AnyL.on 9 (h:=fun K hK=>?_);go_simp;refine hK _ _ (fun _=>hS1) (fun hKq=>?_);clear hK K hKq
     try simp only [zpt]
     refine AnyL.on 10 (h:=fun K hK=>?_);go_simp;refine hK _ _ (fun h=>absurd rfl h) (fun hKq=>?_);clear hK K hKq
     try simp only [zpt]
     refine AnyL.dn (h:=?_)
     go_wp2_with fail
     exact ⟨⟨1,by decide,rfl,zh ⟨zB (i:=4) _ (zB (i:=3) _ HP8.out),(OR8.out.setCell (.inl (by simp)) _).setCell (.inl (by simp)) _⟩⟩,by simp [intOf]⟩
    ·have bb:decide (0≤r0)=false:=decide_eq_false hr;have h0:((x0,y0):Int×Int)=(0,0):=by rw [HV0.out];unfold mvT;rw [←HR0.out,if_neg hr]
     obtain ⟨rfl,rfl⟩:x0=0∧y0=0:=by simpa using h0
     clear h0
     go_wp2_with fail
     exact ⟨⟨1,by decide,rfl,zh ⟨HP7.out,OR7.out⟩⟩,by simp [intOf]⟩
   ·have hp:wr.heap[pb]? =some (.cells #[.int .i64 2,.int .i64 r0,.int .i64 0,.int .i64 x0,.int .i64 y0,.int .i64 0,.int .i64 0] 45 (0,0)):=Hi.out.1;have HPr:=zh hp;have OR:=zh Hi.out.2;have HSr:=zh (HS2.out.only OR.out (by simp;exact hps.symm));have HOr:Hid (Only [sb] w wr):=zh (HO2.out.trans' OR.out (by simp;omega));clear hp Hi
    go_wp2_with fail
    refine (HN1.out _ HSr.out HOr.out).mono ?_;rintro e w3 ⟨rfl,o3⟩;obtain ⟨ar,ax,ay⟩:=a1;obtain ⟨br,bx,bY⟩:=b1;obtain ⟨cr,cx,cy⟩:=c1;unfold zGV zLH;have hp3:=o3.heap HPr.out (by simp);have OR3:=zh (OR.out.trans (o3.mono (by simp)));have hz3:pb<w3.heap.size:=lt_of_block hp3;clear HPr OR HSr HOr;obtain ⟨w5,hw5⟩:∃ w5,w5=(w3.alloc (.cells #[.int .i64 ar,.int .i64 br,.int .i64 cr] 188)).alloc (.cells #[.int .i64 ax,.int .i64 ay,.int .i64 bx,.int .i64 bY,.int .i64 cx,.int .i64 cy] 238):=⟨_,rfl⟩;have o5:Only [] w3 w5:=by rw [hw5];exact ((Only.refl _ _).alloc _).alloc _
    have R5:Hid (w5.heap[w3.heap.size]? =some (.cells #[.int .i64 ar,.int .i64 br,.int .i64 cr] 188 (0,0))):=zh (by rw [hw5];exact ZE _ (ZA w3 _));have V5:Hid (w5.heap[w3.heap.size+1]? =some (.cells #[.int .i64 ax,.int .i64 ay,.int .i64 bx,.int .i64 bY,.int .i64 cx,.int .i64 cy] 238 (0,0))):=zh (by
     rw [hw5];have:=ZA (w3.alloc (.cells #[.int .i64 ar,.int .i64 br,.int .i64 cr] 188)) (.cells #[.int .i64 ax,.int .i64 ay,.int .i64 bx,.int .i64 bY,.int .i64 cx,.int .i64 cy] 238)
     simpa using this)
    have HP5:=zh (o5.heap hp3 (by simp));have OR5:=zh (OR3.out.trans (o5.mono (by simp)));clear o5 hp3 OR3 o3
    go_wp2_with fail
    rw [←hw5];clear hw5;refine di_refs.mono ?_;rintro e w6 ⟨rfl,o6⟩;have hp6:=o6.heap HP5.out (by simp);have R6:=zh (o6.heap R5.out (by simp));have V6:=zh (o6.heap V5.out (by simp));have OR6:=zh (OR5.out.trans (o6.mono (by simp)));have er:zBp ar br cr 3=r1:=HR1.out.symm;rw [er];have g0:=zA hp6 2;have g1:=ZB hp6 2;have HP7:Hid ((w6.setCell ⟨pb,2,none⟩ (.int .i64 r1)).heap[pb]? =some (.cells #[.int .i64 2,.int .i64 r0,.int .i64 r1,.int .i64 x0,.int .i64 y0,.int .i64 0,.int .i64 0] 45 (0,0))):=zh (zB (i:=2) _ hp6);have R7:Hid ((w6.setCell ⟨pb,2,none⟩ (.int .i64 r1)).heap[w3.heap.size]? =_):=zh (zC _ R6.out (by omega));have V7:Hid ((w6.setCell ⟨pb,2,none⟩ (.int .i64 r1)).heap[w3.heap.size+1]? =_):=zh (zC _ V6.out (by omega));have OR7:=zh (OR6.out.setCell (p:=⟨pb,2,none⟩) (.inl (by simp)) (.int .i64 r1));clear hp6 o6 HP5 R5 V5 OR5 R6 V6 OR6
    go_upto_region 10 with fail
    clear g0 g1 er;generalize w6.setCell ⟨pb,2,none⟩ (.int .i64 r1)=w7 at HP7 R7 V7 OR7 ⊢;have g0:=zA HP7.out 2
    by_cases hr:0≤r1
    ·have bb:decide (0≤r1)=true:=decide_eq_true hr;have hxy:x1=zBN ar br cr ax bx cx r1 (-1)∧y1=zBN ar br cr ay bY cy r1 (-1):=by
      have h9:=HV1.out;unfold mvT at h9;rw [←HR1.out,if_pos hr] at h9;exact Prod.mk.inj h9
     have HXY:=zh hxy;clear hxy
     go_upto_region 11 with fail
     have hSr:(fun w':World=>w'.rangeAt w3.heap.size 0 [.int .i64 ar,.int .i64 br,.int .i64 cr]∧w'.rangeAt (w3.heap.size+1) 0 [.int .i64 ax,.int .i64 ay,.int .i64 bx,.int .i64 bY,.int .i64 cx,.int .i64 cy]∧w'.cell? ⟨pb,2,none⟩=some (.int .i64 r1)) w7.drew:=⟨zAA R7.out,zAA V7.out,g0⟩;refine zH (by kernel_rfl) (fun w':World=>w'.rangeAt w3.heap.size 0 [.int .i64 ar,.int .i64 br,.int .i64 cr]∧w'.rangeAt (w3.heap.size+1) 0 [.int .i64 ax,.int .i64 ay,.int .i64 bx,.int .i64 bY,.int .i64 cx,.int .i64 cy]∧w'.cell? ⟨pb,2,none⟩=some (.int .i64 r1)) 10 ?_;have hS0:=hSr;refine AnyL.tk 0 (h:=?_);refine AnyL.tl 1 rfl (yieldsIf_load_mid (by rfl) _ _ rfl w3.heap.size 0 rfl [.int .i64 ar,.int .i64 br,.int .i64 cr] _ (fun w' h=>h.1) Tryz.underlying188 rfl (by kernel_rfl)) ?_
     refine AnyL.tl 2 rfl (yieldsIf_load_mid (by rfl) _ _ rfl (w3.heap.size+1) 0 rfl [.int .i64 ax,.int .i64 ay,.int .i64 bx,.int .i64 bY,.int .i64 cx,.int .i64 cy] _ (fun w' h=>h.2.1) Tryz.underlying238 rfl (by kernel_rfl)) ?_;refine AnyL.tk 3 (h:=?_);refine AnyL.tk 4 (h:=?_);refine AnyL.tk 5 (h:=?_);refine AnyL.tk 6 (h:=?_);refine AnyL.tk 8 (h:=?_);refine AnyL.on 7 (h:=fun K hK=>?_);go_simp;refine (zBq (shape:=0) (part:=0) (by omega)).mono ?_;rintro e w8 ⟨rfl,o8⟩;rw [show zBM 0 0=-1 from rfl,←HXY.out.1,←HXY.out.2];have hp8:=o8.heap (show w7.drew.heap[pb]? =_ from HP7.out) (by simp)
     have hS1:(fun w':World=>w'.rangeAt w3.heap.size 0 [.int .i64 ar,.int .i64 br,.int .i64 cr]∧w'.rangeAt (w3.heap.size+1) 0 [.int .i64 ax,.int .i64 ay,.int .i64 bx,.int .i64 bY,.int .i64 cx,.int .i64 cy]∧w'.cell? ⟨pb,2,none⟩=some (.int .i64 r1)) w8:=⟨zAA (o8.heap (show w7.drew.heap[w3.heap.size]? =_ from R7.out) (by simp)),zAA (o8.heap (show w7.drew.heap[w3.heap.size+1]? =_ from V7.out) (by simp)),zA hp8 2⟩;have q0:=zA hp8 5;have q1:=zA hp8 6;have q2:=ZB hp8 5;have q3:=ZB hp8 6;have HP8:=zh hp8;have OR8:Hid (Only [pb] w2 w8):=zh (OR7.out.drew.trans (o8.mono (by simp)));clear hp8 o8;refine hK _ _ (fun _=>hS1) (fun hKq=>?_);clear hK K hKq
     try simp only [zpt]
     refine AnyL.on 9 (h:=fun K hK=>?_);go_simp;refine hK _ _ (fun _=>hS1) (fun hKq=>?_);clear hK K hKq
     try simp only [zpt]
     refine AnyL.on 10 (h:=fun K hK=>?_);go_simp;refine hK _ _ (fun h=>absurd rfl h) (fun hKq=>?_);clear hK K hKq
     try simp only [zpt]
     refine AnyL.dn (h:=?_)
     go_wp2_with fail
     exact ⟨⟨2,by decide,rfl,zh ⟨zB (i:=6) _ (zB (i:=5) _ HP8.out),(OR8.out.setCell (.inl (by simp)) _).setCell (.inl (by simp)) _⟩⟩,by simp [intOf]⟩
    ·have bb:decide (0≤r1)=false:=decide_eq_false hr;have h0:((x1,y1):Int×Int)=(0,0):=by rw [HV1.out];unfold mvT;rw [←HR1.out,if_neg hr]
     obtain ⟨rfl,rfl⟩:x1=0∧y1=0:=by simpa using h0
     clear h0
     go_wp2_with fail
     exact ⟨⟨2,by decide,rfl,zh ⟨HP7.out,OR7.out⟩⟩,by simp [intOf]⟩
   ·have hp:wr.heap[pb]? =some (.cells #[.int .i64 2,.int .i64 r0,.int .i64 r1,.int .i64 x0,.int .i64 y0,.int .i64 x1,.int .i64 y1] 45 (0,0)):=Hi.out.1;have OR:=zh Hi.out.2;have hq:=OR.out.heap HA2.out (by simp;exact hpw);have qc0:=zA hq 0;have qf0:=ZB hq 0;have qc1:=zA hq 1;have qf1:=ZB hq 1;have qc2:=zA hq 2;have qf2:=ZB hq 2;have qc3:=zA hq 3;have qf3:=ZB hq 3;have qc4:=zA hq 4;have qf4:=ZB hq 4;have qc5:=zA hq 5;have qf5:=ZB hq 5;have qc6:=zA hq 6;have qf6:=ZB hq 6;have HPr:=zh hp;clear hq Hi HN0 HN1 HE H6 HP2 HA2 HS2 HO2
    by_cases h0:r0<0
    ·by_cases h1:r1<0
     ·have p1:=zA HPr.out 1;have p2:=zA HPr.out 2;clear hp
      go_wp2_with fail
      refine ZU rfl w.heap.size rfl (Hfin.out _ 2 0 0 0 0 0 0 OR.out).1 Tryz.underlying45 rfl (by kernel_rfl) rfl ⟨?_,(Hfin.out _ 2 0 0 0 0 0 0 OR.out).2⟩;unfold zIr;rw [if_neg (by simp),if_pos ⟨h0,h1⟩]
      rfl
     ·have hs:(wr.setCell ⟨pb,0,none⟩ (.int .i64 1)).heap[pb]? =_:=zB (i:=0) (.int .i64 1) hp;have f0:=ZB hp 0;have p0:=zA hp 0;have p1:=zA hp 1;have p2:=zA hp 2;have p3:=zA hp 3;have p4:=zA hp 4;have p5:=zA hp 5;have p6:=zA hp 6;clear hp
      go_upto_region 19 with fail
      clear hs
      go_wp2_with fail
      refine ZU rfl w.heap.size rfl (Hfin.out _ 1 r0 r1 x0 y0 x1 y1 (OR.out.setCell (.inl (by simp)) _)).1 Tryz.underlying45 rfl (by kernel_rfl) rfl ⟨?_,(Hfin.out _ 1 r0 r1 x0 y0 x1 y1 (OR.out.setCell (.inl (by simp)) _)).2⟩;unfold zIr;rw [if_neg (by simp),if_neg (by omega),if_neg (by omega),if_pos h0]
      rfl
    ·by_cases h1:r1<0
     ·have hs:(wr.setCell ⟨pb,0,none⟩ (.int .i64 0)).heap[pb]? =_:=zB (i:=0) (.int .i64 0) hp;have f0:=ZB hp 0;have p0:=zA hp 0;have p1:=zA hp 1;have p2:=zA hp 2;have p3:=zA hp 3;have p4:=zA hp 4;have p5:=zA hp 5;have p6:=zA hp 6;clear hp
      go_upto_region 19 with fail
      clear hs
      go_wp2_with fail
      refine ZU rfl w.heap.size rfl (Hfin.out _ 0 r0 r1 x0 y0 x1 y1 (OR.out.setCell (.inl (by simp)) _)).1 Tryz.underlying45 rfl (by kernel_rfl) rfl ⟨?_,(Hfin.out _ 0 r0 r1 x0 y0 x1 y1 (OR.out.setCell (.inl (by simp)) _)).2⟩;unfold zIr;rw [if_neg (by simp),if_neg (by omega),if_pos h1]
      rfl
     ·have p0:=zA HPr.out 0;have p1:=zA HPr.out 1;have p2:=zA HPr.out 2;have p3:=zA HPr.out 3;have p4:=zA HPr.out 4;have p5:=zA HPr.out 5;have p6:=zA HPr.out 6;clear hp
      go_wp2_with fail
      refine ZU rfl w.heap.size rfl (Hfin.out _ 2 r0 r1 x0 y0 x1 y1 OR.out).1 Tryz.underlying45 rfl (by kernel_rfl) rfl ⟨?_,(Hfin.out _ 2 r0 r1 x0 y0 x1 y1 OR.out).2⟩;unfold zIr;rw [if_neg (by simp),if_neg (by omega),if_neg (by omega),if_neg (by omega)]
      rfl
structure Alike (list:Nat) (z z':Nat→Int):Prop where
 kind:z 0=z' 0
 of:∀ k,k<4→(z (47+k)<z 46↔z' (47+k)<z' 46)
 dir:∀ k,k<4→z (47+k)<z 46→z (18+7*k)=z' (18+7*k)
 ref:∀ k,k<4→z (47+k)<z 46→z (18+(7*k+1+list))=z' (18+(7*k+1+list))
 mx:∀ k,k<4→z (47+k)<z 46→z (18+(7*k+3+2*list))=z' (18+(7*k+3+2*list))
 my:∀ k,k<4→z (47+k)<z 46→z (18+(7*k+4+2*list))=z' (18+(7*k+4+2*list))
theorem Alike.part {list:Nat} {z z':Nat→Int} (h:Alike list z z') (ds:List DoneP) (f wide n:Nat) (x y:Int):zBd ds f wide n z list x y=zBd ds f wide n z' list x y:=by
 unfold zBd
 split
 ·rfl
 ·unfold zM6
  split
  ·rfl
  ·have hk:y.toNat%2*2+x.toNat%2<4:=by omega
   generalize y.toNat%2*2+x.toNat%2=k at hk ⊢
   by_cases hz:z (47+k)<z 46
   ·have hz':=(h.of k hk).1 hz
    by_cases hc:x.toNat/2=(f+n)%wide∧y.toNat/2=(f+n)/wide
    ·rw [if_pos ⟨hc.1,hc.2,hz⟩,if_pos ⟨hc.1,hc.2,hz'⟩];unfold zFh;dsimp only;simp only [h.kind,h.dir k hk hz,h.ref k hk hz,h.mx k hk hz,h.my k hk hz]
    ·rw [if_neg (fun e=>hc ⟨e.1,e.2.1⟩),if_neg (fun e=>hc ⟨e.1,e.2.1⟩)]
   ·have hz':¬ z' (47+k)<z' 46:=fun e=>hz ((h.of k hk).2 e)
    rw [if_neg (fun e=>hz e.2.2),if_neg (fun e=>hz' e.2.2)]
theorem Alike.nb {list:Nat} {z z':Nat→Int} (h:Alike list z z') (ds:List DoneP) (f wide n first wd:Nat):
 nbA ds f wide n z list first=nbA ds f wide n z' list first∧nbB ds f wide n z list first=nbB ds f wide n z' list first∧nbC ds f wide n z list first wd=nbC ds f wide n z' list first wd:=by
 unfold nbA nbB nbC;rw [h.part,h.part,h.part,h.part];exact ⟨rfl,rfl,rfl⟩
def Zg (shape:Int) (p:Nat):Nat:=if shape=0 then 0 else if shape=1 then p/2 else if shape=2 then p%2 else p
def zF6 (shape:Int) (p:Nat):Nat:=if shape=0 then 0 else if shape=1 then p/2*2 else if shape=2 then p%2 else p
theorem ZY {shape:Int} (hs:0≤shape∧shape≤3):∀ (i:Nat) (u:List Nat),(ZD shape)[i]? =some u→∃ h t,u=h::t∧h<4∧zF6 shape h=h∧∀ p,p<4→(p∈u↔Zg shape p=i)∧(p∈u→zF6 shape p=h):=by
 obtain rfl|rfl|rfl|rfl:shape=0∨shape=1∨shape=2∨shape=3:=by omega
 ·intro i u h
  match i,h with
  |0,h=>obtain rfl:[0,1,2,3]=u:=by simpa [ZD] using h
        exact ⟨0,_,rfl,by decide,rfl,by decide⟩
  |i+1,h=>simp [ZD] at h
 ·intro i u h
  match i,h with
  |0,h=>obtain rfl:[0,1]=u:=by simpa [ZD] using h
        exact ⟨0,_,rfl,by decide,rfl,by decide⟩
  |1,h=>obtain rfl:[2,3]=u:=by simpa [ZD] using h
        exact ⟨2,_,rfl,by decide,rfl,by decide⟩
  |i+2,h=>simp [ZD] at h
 ·intro i u h
  match i,h with
  |0,h=>obtain rfl:[0,2]=u:=by simpa [ZD] using h
        exact ⟨0,_,rfl,by decide,rfl,by decide⟩
  |1,h=>obtain rfl:[1,3]=u:=by simpa [ZD] using h
        exact ⟨1,_,rfl,by decide,rfl,by decide⟩
  |i+2,h=>simp [ZD] at h
 ·intro i u h
  match i,h with
  |0,h=>obtain rfl:[0]=u:=by simpa [ZD] using h
        exact ⟨0,_,rfl,by decide,rfl,by decide⟩
  |1,h=>obtain rfl:[1]=u:=by simpa [ZD] using h
        exact ⟨1,_,rfl,by decide,rfl,by decide⟩
  |2,h=>obtain rfl:[2]=u:=by simpa [ZD] using h
        exact ⟨2,_,rfl,by decide,rfl,by decide⟩
  |3,h=>obtain rfl:[3]=u:=by simpa [ZD] using h
        exact ⟨3,_,rfl,by decide,rfl,by decide⟩
  |i+4,h=>simp [ZD] at h
theorem Zn {shape:Int} (hs:0≤shape∧shape≤3) (p:Nat) (hp:p<4):Zg shape p<(ZD shape).length:=by
 obtain rfl|rfl|rfl|rfl:shape=0∨shape=1∨shape=2∨shape=3:=by omega
 ·show 0<1;decide
 ·show p/2<2;omega
 ·show p%2<2;omega
 ·show p<4;omega
theorem zHr (q:Nat→Int):∀ (ps:List Nat) (z:Nat→Int) (p j:Nat),j<7→p<4→p∈ps∨z (18+(7*p+j))=q j→zDg q ps z (18+(7*p+j))=q j
 |[],z,p,j,hj,_,h=>by
  rcases h with h|h
  ·cases h
  ·exact h
 |x::ps,z,p,j,hj,hp,h=>by
  refine zHr q ps _ p j hj hp ?_
  by_cases hm:p∈ps
  ·exact .inl hm
  ·refine .inr ?_;unfold zHa
   by_cases hx:p=x
   ·subst hx;rw [if_pos (by omega)]
    congr 1
    omega
   ·rcases h with h|h
    ·rcases List.mem_cons.1 h with h|h
     ·exact absurd h hx
     ·exact absurd h hm
    ·rw [if_neg (by omega)];exact h
theorem zDH (q:Nat→Int):∀ (ps:List Nat) (z:Nat→Int) (i:Nat),(∀ p∈ps,¬ (18+7*p≤i∧i<18+7*p+7))→zDg q ps z i=z i
 |[],_,_,_=>rfl
 |x::ps,z,i,h=>by
  refine (zDH q ps _ i (fun p hp=>h p (List.mem_cons_of_mem _ hp))).trans ?_;unfold zHa;rw [if_neg (h x List.mem_cons_self)]
structure MotZ (wr:Bool) (shape:Int) (G:Nat→Int) (R:Nat→Nat→Prop) (k:Int) (z:Nat→Int):Prop where
 kind:z 0=4
 unit:z 46=k
 of:∀ p,p<4→z (47+p)=Zg shape p
 got:∀ p j,p<4→j<7→R (Zg shape p) j→z (18+(7*p+j))=G (7*p+j)
 may:∀ p j,p<4→j<7→z (18+(7*p+j))=G (7*p+j)∨(wr=false∧z (18+(7*p+j))=0)
def zHc (shape:Int) (G:Nat→Int):Prop:=∀ p j,p<4→j<7→G (7*p+j)=G (7*zF6 shape p+j)
theorem MotZ.set {wr:Bool} {shape:Int} {G:Nat→Int} {R R':Nat→Nat→Prop} {k:Int} {z:Nat→Int} (h:MotZ wr shape G R k z) (hs:0≤shape∧shape≤3) (hG:zHc shape G) {i:Nat} {u:List Nat} {hd:Nat} {t:List Nat} (hu:(ZD shape)[i]? =some u) (hh:u=hd::t) (q:Nat→Int)
 (hq:∀ j,j<7→q j=G (7*hd+j)∨(wr=false∧q j=0)) (hR:∀ j,j<7→R' i j→q j=G (7*hd+j)) (hR2:∀ u' j,u'≠i→R' u' j→R u' j):MotZ wr shape G R' k (zDg q u z):=by
 obtain ⟨h',t',e,h4,hhd,hm⟩:=ZY hs i u hu;rw [hh] at e;obtain ⟨rfl,rfl⟩:=List.cons.inj e;have hp4:∀ p∈u,p<4:=fun p hp=>((zO shape) u (List.mem_of_getElem? hu)).2.2 p hp
 have hout:∀ j,(j<18∨46≤j)→zDg q u z j=z j:=fun j hj=>zDH q u z j (fun p hp=>by have:=hp4 p hp;omega)
 have hin:∀ p j,p<4→j<7→Zg shape p=i→zDg q u z (18+(7*p+j))=q j∧G (7*p+j)=G (7*hd+j):=fun p j hp hj hi=>by
  have hpm:=((hm p hp).1).2 hi;refine ⟨zHr q u z p j hj hp (.inl hpm),?_⟩;rw [hG p j hp hj,((hm p hp).2) hpm]
 have hoff:∀ p j,p<4→j<7→Zg shape p≠i→zDg q u z (18+(7*p+j))=z (18+(7*p+j)):=fun p j hp hj hi=>
  zDH q u z _ (fun p' hp' hc=>hi (((hm p hp).1).1 (by
   have:=hp4 p' hp';have e:p'=p:=by omega
   exact e▸hp')))
 refine ⟨by rw [hout 0 (by decide),h.kind],by rw [hout 46 (by decide),h.unit],fun p hp=>by rw [hout (47+p) (by omega),h.of p hp],fun p j hp hj hr=>?_,fun p j hp hj=>?_⟩
 ·by_cases hi:Zg shape p=i
  ·rw [(hin p j hp hj hi).1,(hin p j hp hj hi).2];exact hR j hj (hi▸hr)
  ·rw [hoff p j hp hj hi];exact h.got p j hp hj (hR2 _ j hi hr)
 ·by_cases hi:Zg shape p=i
  ·rw [(hin p j hp hj hi).1,(hin p j hp hj hi).2];exact hq j hj
  ·rw [hoff p j hp hj hi];exact h.may p j hp hj
theorem MotZ.mono {wr:Bool} {shape:Int} {G:Nat→Int} {R R':Nat→Nat→Prop} {k:Int} {z:Nat→Int} (h:MotZ wr shape G R k z) (hR:∀ u j,u<(ZD shape).length→R' u j→R u j) (hs:0≤shape∧shape≤3):MotZ wr shape G R' k z:=
 ⟨h.kind,h.unit,h.of,fun p j hp hj hr=>h.got p j hp hj (hR _ j (Zn hs p hp) hr),h.may⟩
def zFX (shape:Int) (G:Nat→Int) (k:Int):Nat→Int:=fun i=>if i=0 then 4 else if i<18 then 0 else if i<46 then G (i-18) else if i=46 then k else (Zg shape (i-47):Nat)
theorem MotZ.alike {wr:Bool} {shape:Int} {G:Nat→Int} {R:Nat→Nat→Prop} {k list:Nat} {z:Nat→Int} (h:MotZ wr shape G R k z) (hl:list<2) (hR:∀ u,u<k→R u 0∧R u (1+list)∧R u (3+2*list)∧R u (4+2*list)):Alike list z (zFX shape G k):=by
 have e46:zFX shape G k 46=k:=rfl;have e47:∀ p,zFX shape G k (47+p)=(Zg shape p:Nat):=fun p=>by
  unfold zFX;rw [if_neg (by omega),if_neg (by omega),if_neg (by omega),if_neg (by omega),show 47+p-47=p by omega]
 have e18:∀ i,i<28→zFX shape G k (18+i)=G i:=fun i hi=>by
  unfold zFX;rw [if_neg (by omega),if_neg (by omega),if_pos (by omega),show 18+i-18=i by omega]
 have hlt:∀ p,p<4→z (47+p)<z 46→Zg shape p<k:=fun p hp hz=>by rw [h.of p hp,h.unit] at hz;omega
 refine ⟨by rw [h.kind];rfl,fun p hp=>by rw [h.of p hp,h.unit,e46,e47],fun p hp hz=>?_,fun p hp hz=>?_,fun p hp hz=>?_,fun p hp hz=>?_⟩
 ·have:=h.got p 0 hp (by decide) (hR _ (hlt p hp hz)).1;rw [Nat.add_zero] at this;rw [this,e18 _ (by omega)]
 ·rw [Nat.add_assoc,h.got p (1+list) hp (by omega) (hR _ (hlt p hp hz)).2.1,e18 _ (by omega)]
 ·rw [Nat.add_assoc,h.got p (3+2*list) hp (by omega) (hR _ (hlt p hp hz)).2.2.1,e18 _ (by omega)]
 ·rw [Nat.add_assoc,h.got p (4+2*list) hp (by omega) (hR _ (hlt p hp hz)).2.2.2,e18 _ (by omega)]
def byN (ds:List DoneP) (f wide n:Nat) (z:Nat→Int) (shape:Int) (list k first:Nat) (ref:Int):Int×Int:=
 let a:=nbA ds f wide n z list first
 let b:=nbB ds f wide n z list first
 let c:=nbC ds f wide n z list first (zCz shape).toNat
 let s:=if shape=3 then 0 else shape
 (zBN a.1 b.1 c.1 a.2.1 b.2.1 c.2.1 ref (zBM s k),zBN a.1 b.1 c.1 a.2.2 b.2.2 c.2.2 ref (zBM s k))
def hd0 (u:List Nat):Nat:=u.headD 0
def zBj (most:Int) (D:Nat→Int) (us:List (List Nat)):List Ask:=us.map fun u=> .elem 7 0 (D (hd0 u)) most
def ZM (most:Int) (list:Nat) (D G:Nat→Int):List (List Nat)→List Ask
 |[]=>[]
 |u::us=>(if Zv list (D (hd0 u))=true∧0<most then [.elem 8 0 (G (7*hd0 u+(1+list))) most] else [])++ZM most list D G us
def ZI (B:Nat→Nat→Int×Int) (list:Nat) (D G:Nat→Int):List (List Nat)→Nat→List Ask
 |[],_=>[]
 |u::us,k=>(if Zv list (D (hd0 u))=true then [.elem 9 0 (G (7*hd0 u+(3+2*list))-(B k (hd0 u)).1) 0,.elem 10 0 (G (7*hd0 u+(4+2*list))-(B k (hd0 u)).2) 0] else [])++ZI B list D G us (k+1)
theorem MotZ.skip {wr:Bool} {shape:Int} {G:Nat→Int} {R:Nat→Nat→Prop} {J:Nat→Prop} {k:Int} {i:Nat} {z:Nat→Int} (h:MotZ wr shape G (fun u j=>R u j∨(u<i∧J j)) k z) (hs:0≤shape∧shape≤3) (hJ:∀ j,J j→R i j):MotZ wr shape G (fun u j=>R u j∨(u<i+1∧J j)) k z:=
 h.mono (fun u j _ h=>h.elim .inl (fun h=>by
  by_cases e:u=i
  ·exact .inl (e▸hJ j h.2)
  ·exact .inr ⟨by omega,h.2⟩)) hs
theorem MotZ.step {wr:Bool} {shape:Int} {G:Nat→Int} {R:Nat→Nat→Prop} {J:Nat→Prop} {k:Int} {i hd:Nat} {z:Nat→Int} {u t:List Nat} (h:MotZ wr shape G (fun u j=>R u j∨(u<i∧J j)) k z) (hs:0≤shape∧shape≤3) (hG:zHc shape G) (hu:(ZD shape)[i]? =some u) (hh:u=hd::t) (q:Nat→Int)
 (h1:∀ j,j<7→J j→q j=G (7*hd+j)) (h2:∀ j,j<7→¬ J j→q j=z (18+(7*hd+j))):MotZ wr shape G (fun u j=>R u j∨(u<i+1∧J j)) k (zDg q u z):=by
 obtain ⟨h',t',e,h4,hhd,hm⟩:=ZY hs i u hu;rw [hh] at e;obtain ⟨rfl,rfl⟩:=List.cons.inj e;have hui:Zg shape hd=i:=((hm hd h4).1).1 (hh▸List.mem_cons_self);refine h.set hs hG hu hh q (fun j hj=>?_) (fun j hj hr=>?_) (fun u' j hne hr=>?_)
 ·by_cases hJ:J j
  ·exact .inl (h1 j hj hJ)
  ·rw [h2 j hj hJ];exact h.may hd j h4 hj
 ·by_cases hJ:J j
  ·exact h1 j hj hJ
  ·rw [h2 j hj hJ];refine h.got hd j h4 hj ?_;rw [hui];exact hr.elim .inl (fun h=>absurd h.2 hJ)
 ·exact hr.elim .inl (fun h=> .inr ⟨by omega,h.2⟩)
theorem Scene.newS {c:Cod} {F0 F:List Nat} {w0 w w':World} {kb sb mb n:Nat} {S S' X:Nat→Value} {D:List Value} {r:List Ask} (h:Scene c F0 w0 w kb sb mb S X n D F r) (hc:c.Ok) (hb:BlkIn w' sb 75 106 S') (h23:S' 23=S 23) (ho:Only [sb] w w'):Scene c F0 w0 w' kb sb mb S' X n D F r where
 k:=h.k.only ho (by simp;exact h.ks)
 s:=hb
 m:=h.m.only ho (by simp;exact h.sm.symm)
 a:=by
  rw [h23];exact zF h.a fun g hg=>by
   obtain ⟨cur,hcu⟩:=zD h.a hg;exact ho.block g (lt_of_block hcu) (by simp;exact (h.ag hg).2.1)
 c:=hc.keep F r w w' [sb] h.c ho (fun i hi e=>h.ns (by rw [List.mem_singleton.1 e] at hi;exact hi))
 nk:=h.nk
 ns:=h.ns
 nm:=h.nm
 na:=by rw [h23];exact h.na
 o:=h.o.trans' ho (fun i hi=> .inl (by rw [List.mem_singleton.1 hi];simp))
 n:=h.n
 l:=h.l
theorem ZG {P:Program} {op:Oper} {a:Act} {w:World} {K:Act→World→Prop} {Q:Exit→Act→World→Prop} (ty:TypeId) (x y:Operand) (ho:op.op=.store ty x y) (g:Nat) (cells:List Value) (hx:a.eval x=.pointer (some ⟨g,0,none⟩)) (hy:a.eval y=.agg cells.toArray)
 {t:TypeId} {cur:Array Value} (hg:w.heap[g]? =some (.cells cur t (0,0))) (hi:(P.info? ty).map (·.size)=some cells.length) (hfit:cells.length=cur.size) (h1:∀ v∈cells,v.oneCell'=true)
 (h:∀ w',w'.heap[g]? =some (.cells cells.toArray t (0,0))→Only [g] w w'→K (a.put op.dst undef) w'):op.wp P a w K Q:=by
 have hst:=run_storeCells_at (P:=P) g 0 t cells.toArray.toList 0 cur w hg (by simp;omega) (fun v hv=>h1 v (by simpa using hv));have hp:zDO cur 0 cells.toArray=cells.toArray:=by
  unfold zDO;rw [List.take_zero,List.nil_append,List.drop_of_length_le (by simp;omega),List.append_nil]
 have hrun:(storeVar ty ⟨g,0,none⟩ (.agg cells.toArray)).run P w=.ok () (w.setRow g (zDO cur 0 cells.toArray)):=by
  cases hq:P.info? ty with
  |none=>simp [hq] at hi
  |some i=>
   have hs:cells.length=i.size:=by simp [hq] at hi;omega
   simp only [Nat.add_zero] at hst;simp [storeVar,sizeOf,typeInfo,hq,Value.cells,hs,hst,zDO]
 rw [hp] at hrun;unfold Oper.wp execOp;simp only [ho,hx,hy,Instr.storeAt,Instr.sureAddr,Sem.run_bind,Sem.run_pure,Result.andThen_ok,hrun];exact h _ (setRow_heap w g cur _ t _ hg) ⟨rfl,rfl,rfl,by simp [World.setRow],fun k _ hk=>setRow_other w g k _ (by simpa using hk)⟩
theorem MotZ.at {wr:Bool} {shape:Int} {G:Nat→Int} {R:Nat→Nat→Prop} {k:Int} {z:Nat→Int} (h:MotZ wr shape G R k z) (k':Int):MotZ wr shape G R k' (zHa 46 1 (fun _=>k') z):=by
 have e:∀ j,j≠46→zHa 46 1 (fun _=>k') z j=z j:=fun j hj=>by
  unfold zHa;rw [if_neg (by omega)]
 refine ⟨by rw [e 0 (by decide),h.kind],?_,fun p hp=>by rw [e _ (by omega),h.of p hp],fun p j hp hj hr=>by rw [e _ (by omega),h.got p j hp hj hr],fun p j hp hj=>?_⟩
 ·unfold zHa;rw [if_pos (by omega)]
 ·rw [e _ (by omega)];exact h.may p j hp hj
structure Two (w0:World) (t1 t2:TypeId) (c1 c2:Array Value) (o1 o2:Option Nat) (w:World):Prop where
 o:Only [] w0 w
 b1:∀ p,o1=some p→w.heap[p]? =some (.cells c1 t1 (0,0))∧w0.heap.size≤p
 b2:∀ p,o2=some p→w.heap[p]? =some (.cells c2 t2 (0,0))∧w0.heap.size≤p
theorem Two.call {w0 w w':World} {t1 t2:TypeId} {c1 c2:Array Value} {o1 o2:Option Nat} (h:Two w0 t1 t2 c1 c2 o1 o2 w) (ho:Only [] w w'):Two w0 t1 t2 c1 c2 o1 o2 w':=
 ⟨h.o.trans ho,fun p hp=>⟨ho.heap (h.b1 p hp).1 (by simp),(h.b1 p hp).2⟩,fun p hp=>⟨ho.heap (h.b2 p hp).1 (by simp),(h.b2 p hp).2⟩⟩
theorem Two.a1 {w0 w:World} {t1 t2:TypeId} {c1 c2:Array Value} {o2:Option Nat} (h:Two w0 t1 t2 c1 c2 none o2 w) (p:Nat) (hp:w.heap.size=p):Two w0 t1 t2 c1 c2 (some p) o2 (w.alloc (.cells c1 t1)):=
 ⟨h.o.alloc _,fun q hq=>by obtain rfl:=Option.some.inj hq;rw [←hp];exact ⟨ZA w _,h.o.size⟩,fun p hp=>⟨ZE _ (h.b2 p hp).1,(h.b2 p hp).2⟩⟩
theorem Two.a2 {w0 w:World} {t1 t2:TypeId} {c1 c2:Array Value} {o1:Option Nat} (h:Two w0 t1 t2 c1 c2 o1 none w) (p:Nat) (hp:w.heap.size=p):Two w0 t1 t2 c1 c2 o1 (some p) (w.alloc (.cells c2 t2)):=
 ⟨h.o.alloc _,fun p hp=>⟨ZE _ (h.b1 p hp).1,(h.b1 p hp).2⟩,fun q hq=>by obtain rfl:=Option.some.inj hq;rw [←hp];exact ⟨ZA w _,h.o.size⟩⟩
theorem Two.ne {w0 w:World} {t1 t2:TypeId} {c1 c2:Array Value} {p q:Nat} (h:Two w0 t1 t2 c1 c2 (some p) (some q) w) (ht:t1≠t2):p≠q:=by
 rintro rfl;have h1:=(h.b1 p rfl).1;rw [(h.b2 p rfl).1] at h1;simp at h1;exact ht h1.2.symm
theorem Scene.newM {c:Cod} {F0 F:List Nat} {w0 w w':World} {kb sb mb n:Nat} {S X X':Nat→Value} {D:List Value} {r:List Ask} (h:Scene c F0 w0 w kb sb mb S X n D F r) (hc:c.Ok) (hb:BlkIn w' mb 483 51 X') (ho:Only [mb] w w'):Scene c F0 w0 w' kb sb mb S X' n D F r where
 k:=h.k.only ho (by simp;exact h.km)
 s:=h.s.only ho (by simp;exact h.sm)
 m:=hb
 a:=zF h.a fun g hg=>by
  obtain ⟨cur,hcu⟩:=zD h.a hg;exact ho.block g (lt_of_block hcu) (by simp;exact (h.ag hg).2.2.1)
 c:=hc.keep F r w w' [mb] h.c ho (fun i hi e=>h.nm (by rw [List.mem_singleton.1 e] at hi;exact hi))
 nk:=h.nk
 ns:=h.ns
 nm:=h.nm
 na:=h.na
 o:=h.o.trans' ho (fun i hi=> .inl (by rw [List.mem_singleton.1 hi];simp))
 n:=h.n
 l:=h.l
end Go.Proofs.YtcppbdlmcbjmeaaGreatDoor
