/- Lemmas that the law needs, part 41. -/
import Derived.Test.YtcppbdlmcbjmeaaGreatDoorK38
import Derived.Test.YtcppbdlmcbjmeaaGreatDoorK40
set_option maxHeartbeats 1600000
set_option maxRecDepth 100000
namespace Go.Proofs.YtcppbdlmcbjmeaaGreatDoor
open Go.RowKit
theorem zCe (el:Int) (w:World):Calls Tryz.prog 220 #[.int .i64 el] w fun r w'=>r=.returned (.bool (zBR el))∧w=w':=by
 by_cases h:zBR el=true
 ·rw [h];simp only [zBR,decide_eq_true_eq] at h
  rcases h with rfl|rfl|rfl|rfl|rfl|rfl|rfl|rfl|rfl
  all_goals
   go_enter Tryz.func220,Tryz.ntmps220
   go_wp2;go_ret;exact ⟨rfl,rfl⟩
 ·have e:zBR el=false:=by simpa using h
  rw [e];simp only [zBR,decide_eq_true_eq,not_or] at h;obtain ⟨h1,h2,h3,h4,h5,h6,h7,h8,h9⟩:=h;have e1:(el==1)=false:=by simpa using h1
  have e2:(el==3)=false:=by simpa using h2
  have e3:(el==4)=false:=by simpa using h3
  have e4:(el==5)=false:=by simpa using h4
  have e5:(el==6)=false:=by simpa using h5
  have e6:(el==7)=false:=by simpa using h6
  have e7:(el==8)=false:=by simpa using h7
  have e8:(el==11)=false:=by simpa using h8
  have e9:(el==12)=false:=by simpa using h9
  clear e h1 h2 h3 h4 h5 h6 h7 h8 h9
  go_enter Tryz.func220,Tryz.ntmps220
  go_wp2;go_ret;exact ⟨rfl,rfl⟩
def WcIs (w:World) (wb sb bb:Nat) (ev:Value) (over:Bool):Prop:=w.heap[wb]? =some (.cells #[.pointer (some ⟨sb,0,none⟩),.pointer (some ⟨bb,0,none⟩),ev,.bool over] 89 (0,0))
theorem WcIs.only {w w':World} {S:List Nat} {wb sb bb:Nat} {ev:Value} {over:Bool} (h:WcIs w wb sb bb ev over) (ho:Only S w w') (hb:wb∉S):WcIs w' wb sb bb ev over:=ho.heap h hb
theorem WcIs.cells {w:World} {wb sb bb:Nat} {ev:Value} {over:Bool} (h:WcIs w wb sb bb ev over):w.cell? ⟨wb,0,none⟩=some (.pointer (some ⟨sb,0,none⟩))∧w.cell? ⟨wb,1,none⟩=some (.pointer (some ⟨bb,0,none⟩))∧w.cell? ⟨wb,2,none⟩=some ev∧w.cell? ⟨wb,3,none⟩=some (.bool over):=by
 refine ⟨?_,?_,?_,?_⟩<;>(rw [zA h];rfl)
theorem zJH {wb sb bb:Nat} {over:Bool} {ov:Value} {bs:List Int} {el inc v most:Int} {w:World} (hW:WcIs w wb sb bb (.pointer none) over) (h:WrIs w bb ov bs) (hf:(Ask.elem el inc v most).fine) (hlen:bs.length<900000000):
 Calls Tryz.prog 215 #[.pointer (some ⟨wb,0,none⟩),.int .i64 el,.int .i64 inc,.int .i64 v,.int .i64 most] w fun r w'=>r=.returned (.int .i64 v)∧∃ ov',WrIs w' bb ov' (bs++zAf el v most)∧EncTo w w' bb ov ov':=by
 obtain ⟨-,c1,c2,-⟩:=hW.cells;have H:=zh h;unfold zAf
 cases hs:zBR el with
 |true=>
  obtain ⟨m1,m2,v1,v2⟩:=zDw hf hs;obtain ⟨x,rfl⟩:=Int.eq_ofNat_of_zero_le v1;obtain ⟨M,rfl⟩:=Int.eq_ofNat_of_zero_le (show 0≤most by omega);have Hs:=zh hs;clear hf hW h hs;rw [if_pos rfl]
  go_enter Tryz.func215,Tryz.ntmps215
  go_wp2_with fail
  refine (zCe el w).mono ?_;rintro r w1 ⟨rfl,rfl⟩;rw [Hs.out]
  go_wp2_with fail
  refine (zKl bb ov bs x M w H.out (by omega) (by omega) (by omega) (by omega)).mono ?_;rintro r w1 ⟨rfl,ov1,h1,h2⟩;have H1:=zh h1;have H2:=zh h2;clear h1 h2;go_wp2;go_ret;exact ⟨rfl,ov1,H1.out,H2.out⟩
 |false=>
  rw [if_neg (by decide)]
  cases hg:zBb el with
  |true=>
   obtain ⟨v1,v2⟩:=zC6 hf hg;rw [if_pos rfl];have Hs:=zh hs;simp only [zBb,decide_eq_true_eq] at hg;clear hf hW h hs
   rcases hg with rfl|rfl|rfl
   all_goals
    go_enter Tryz.func215,Tryz.ntmps215
    go_wp2_with fail
    refine (zCe _ w).mono ?_;rintro r w1 ⟨rfl,rfl⟩;rw [Hs.out]
    go_wp2_with fail
    refine (zGo bb ov bs v w H.out (by omega) (by omega) (by omega)).mono ?_;rintro r w1 ⟨rfl,ov1,h1,h2⟩;have H1:=zh h1;have H2:=zh h2;clear h1 h2;go_wp2;go_ret;exact ⟨rfl,ov1,H1.out,H2.out⟩
  |false=>
   obtain ⟨he,hv⟩:=zHL hf hs hg;rw [if_neg (by decide)];obtain ⟨x,rfl⟩:=Int.eq_ofNat_of_zero_le (show 0≤v by omega);have Hs:=zh hs;have hx:x<2^1:=by omega
   clear hf hW h hs hg hv
   rcases he with rfl|rfl
   all_goals
    go_enter Tryz.func215,Tryz.ntmps215
    go_wp2_with fail
    refine (zCe _ w).mono ?_;rintro r w1 ⟨rfl,rfl⟩;rw [Hs.out]
    go_wp2_with fail
    refine (zBv bb ov bs x 1 w H.out (by decide) hx (by omega)).mono ?_;rintro r w1 ⟨rfl,ov1,h1,h2⟩;have H1:=zh h1;have H2:=zh h2;clear h1 h2;go_wp2;go_ret;exact ⟨rfl,ov1,H1.out,H2.out⟩
theorem zLg {wb sb bb g off cap:Nat} {over:Bool} {ov:Value} {bs cs:List Int} {cat inc:Int} {w:World} (hW:WcIs w wb sb bb (.pointer none) over) (h:WrIs w bb ov bs) (hv:IntSlice w (.slice (some ⟨g,off,none⟩) cs.length cap) cs) (hsz:cs.length=4∨cs.length=15∨cs.length=16) (hr:rangeB cs=true) (hlen:bs.length<900000000) (h1:g≠bb) (h2:ov.ownBlock≠some g):
 Calls Tryz.prog 214 #[.pointer (some ⟨wb,0,none⟩),.slice (some ⟨g,off,none⟩) cs.length cap,.int .i64 cat,.int .i64 inc] w fun r w'=>r=.returned (.tuple #[])∧∃ ov',WrIs w' bb ov' (bs++zEG cs)∧EncTo w w' bb ov ov':=by
 obtain ⟨-,c1,c2,-⟩:=hW.cells;have hput:=zNS bb ov (.slice (some ⟨g,off,none⟩) cs.length cap) bs cs w h hv hsz hr hlen (fun g' off' c' e=>by
  injection e with e1 e2 e3
  injection e1 with e1
  injection e1 with e1
  subst e1;exact ⟨h1,h2⟩)
 obtain ⟨n,hn⟩:∃ n,n=cs.length:=⟨_,rfl⟩;rw [←hn] at hput ⊢;have HP:=zh hput;clear hput hv hsz hr h h1 h2 hW hn
 go_enter Tryz.func214,Tryz.ntmps214
 go_wp2_with fail
 refine HP.out.mono ?_;rintro r w1 ⟨rfl,ov1,h1,h2⟩;have H1:=zh h1;have H2:=zh h2;clear h1 h2;go_wp2;go_end0;exact ⟨rfl,ov1,H1.out,H2.out⟩
theorem zNc {wb sb bb:Nat} {over:Bool} {ov:Value} {bs:List Int} {x:Nat} {w:World} (hW:WcIs w wb sb bb (.pointer none) over) (h:WrIs w bb ov bs) (hx:x≤255) (hlen:bs.length<900000000):
 Calls Tryz.prog 216 #[.pointer (some ⟨wb,0,none⟩),.int .u8 x] w fun r w'=>r=.returned (.int .u8 x)∧∃ ov',WrIs w' bb ov' (bs++ZW x 8)∧EncTo w w' bb ov ov':=by
 obtain ⟨-,c1,c2,-⟩:=hW.cells;have H:=zh h;have hx2:x<2^8:=by omega
 clear hW h
 go_enter Tryz.func216,Tryz.ntmps216
 go_wp2
 go_loop [5] (fun q=>q=.int .i64 7) (fun q=>0)
 case atStart=>rfl
 case round=>
  obtain rfl:=hrel
  go_wp2_with fail
  refine (zBv bb ov bs x 8 w H.out (by decide) hx2 (by omega)).mono ?_;rintro r w1 ⟨rfl,ov1,h1,h2⟩;have H1:=zh h1;have H2:=zh h2;clear h1 h2;go_wp2;go_ret;exact ⟨rfl,ov1,H1.out,H2.out⟩
theorem zEF (ones:Nat):∀ (vs:List Int) (i:Nat),(∀ v∈vs,-32767≤v∧v≤32767)→(zBs ones i vs).length≤63*vs.length
 |[],i,_=>by simp [zBs]
 |v::vs,i,h=>by
  have h1:=zE3 ones i v (h v (by simp)).1 (h v (by simp)).2;have h2:=zEF ones vs (i+1) (fun u hu=>h u (by simp [hu]))
  show (zF2 ones i v++zBs ones (i+1) vs).length≤_
  rw [List.length_append,List.length_cons];omega
theorem zD9:∀ (ps:List Nat) (left:Nat),left≤16→(∀ p∈ps,p≤16)→(zA4 left ps).length≤63*ps.length
 |[],left,_,_=>by simp [zA4]
 |[a],left,_,_=>by simp [zA4]
 |a::b::r,left,h,hp=>by
  unfold zA4
  split
  ·simp
  ·have ha:=hp a (by simp);have h1:(teN (a-b-1) left).length≤63:=by
    unfold teN
    split
    ·rw [zQ];decide
    ·exact zDb _ (by omega)
   have h2:=zD9 (b::r) (left-(a-b-1)) (by omega) (fun p hp2=>hp p (by simp [List.mem_cons.1 hp2]));rw [List.length_append,List.length_cons];omega
theorem zH2 (cs:List Int) (hsz:cs.length≤16) (hr:rangeB cs=true):(zEG cs).length≤2500:=by
 have hn:(ZF cs).length≤cs.length:=zAk cs _;unfold zEG;have h1:=zAO (ZF cs).length cs.length hn (by omega);rw [List.length_append]
 split
 ·simp;omega
 ·rename_i h0;have hf:=zAb cs cs.length 0 (by unfold ZF at h0;omega);rw [show zDP cs cs.length=ZF cs from rfl] at hf;have hO:=zCf 3 (zT cs);have hv:(zT cs).length=(ZF cs).length:=by simp [zT]
  have h2:=zAO (zBO 3 (zT cs)) (min 3 (ZF cs).length) (by omega) (by omega);have h3:=zEF (zBO 3 (zT cs)) (zT cs) 0 (fun v hm=>by
   obtain ⟨p,-,rfl⟩:=List.mem_map.1 hm;exact zCN hr p)
  have h4:=zAO ((ZF cs).getD 0 0+1-(ZF cs).length) (cs.length-(ZF cs).length) (by omega) (by omega);have h5:=zD9 (ZF cs) ((ZF cs).getD 0 0+1-(ZF cs).length) (by omega) (fun p hp=>by have:=(zGY cs cs.length p hp).1;omega);simp only [List.length_append];omega
theorem Ask.bits_length (a:Ask) (h:a.fine):a.bits.length≤2500:=by
 cases a with
 |elem el inc v most=>
  show (zAf el v most).length≤2500
  unfold zAf
  cases hs:zBR el with
  |true=>
   have:=zDw h hs;rw [if_pos rfl];have:=zDc v.toNat most.toNat (by omega) (by omega);omega
  |false=>
   rw [if_neg (by decide)]
   cases hg:zBb el with
   |true=>
    have:=zC6 h hg;rw [if_pos rfl];have:=zDh v (by omega) (by omega);omega
   |false=>rw [if_neg (by decide),zQ];decide
 |coefs cs cat inc=>
  have h1:=zAU h;have h2:=zAe h1.1;exact zH2 cs (by omega) h1.2
 |raw v=>show (ZW v.toNat 8).length≤2500;rw [zQ];decide
theorem BlkIn.ints {w:World} {mb n off cap:Nat} {t:TypeId} {X:Nat→Value} {cs:List Int} (h:BlkIn w mb n t X) (hn:off+cs.length≤n) (hX:∀ i,i<cs.length→X (off+i)=.int .i64 (cs.getD i 0)):IntSlice w (.slice (some ⟨mb,off,none⟩) cs.length cap) cs:=
 ⟨_,_,rfl,.inr ⟨mb,off,rfl,fun i hi=>by rw [h.cell (off+i) (by omega),hX i hi]⟩⟩
theorem zIe {X:Nat→Value} {cs:List Int} {off:Nat} (hX:∀ i,i<cs.length→X (off+i)=.int .i64 (cs.getD i 0)):(fun j=>if off≤j∧j<off+cs.length then Value.int .i64 (cs.getD (j-off) 0) else X j)=X:=by
 funext j
 by_cases h:off≤j∧j<off+cs.length
 ·rw [if_pos h,←hX (j-off) (by omega),show off+(j-off)=j by omega]
 ·rw [if_neg h]
def zMH (wb sb bb:Nat) (total:List Int):Cod where
 C F acts w:=∃ (ov:Value) (bs:List Int),F=wb::bb::ov.ownBlock.toList∧WcIs w wb sb bb (.pointer none) false∧WrIs w bb ov bs∧bs++ZJ acts=total∧(∀ a∈acts,a.fine)∧bs.length+2500*acts.length≤500000000
 wr:=true
 T:=31
 pv:=.pointer (some ⟨wb,0,none⟩)
 fE:=215
 fC:=214
 fR:=216
theorem WcIs.ne {w:World} {wb sb bb:Nat} {ev ov:Value} {over:Bool} {bs:List Int} (h:WcIs w wb sb bb ev over) (k:WrIs w bb ov bs):wb≠bb∧∀ g,ov.ownBlock=some g→wb≠g∧bb≠g:=by
 obtain ⟨c,hc⟩:=k.cells;unfold WcIs at h;refine ⟨?_,fun g hg=>?_⟩
 ·rintro rfl;rw [h] at hc;simp at hc
 ·obtain ⟨cur,hcur⟩:=zD k.out hg
  constructor
  ·rintro rfl;rw [h] at hcur;simp at hcur
  ·rintro rfl;rw [hc] at hcur;simp at hcur
theorem zHe {w w':World} {wb sb bb:Nat} {ov ov':Value} {bs bs' total:List Int} {a:Ask} {r:List Ask} (hW:WcIs w wb sb bb (.pointer none) false) (hw:WrIs w bb ov bs) (ht:bs++ZJ (a::r)=total) (hf:∀ x∈a::r,x.fine)
 (hl:bs.length+2500*(a::r).length≤500000000) (h1:WrIs w' bb ov' bs') (e:bs'=bs++a.bits) (h2:EncTo w w' bb ov ov'):
 (zMH wb sb bb total).C (wb::bb::ov'.ownBlock.toList) r w'∧CGo (wb::bb::ov.ownBlock.toList) (wb::bb::ov'.ownBlock.toList) w w'∧Only (bb::ov.ownBlock.toList) w w':=by
 subst e;obtain ⟨n1,n2⟩:=hW.ne hw;have hl2:=a.bits_length (hf a (by simp));refine ⟨⟨ov',_,rfl,hW.only h2.only ?_,h1,by rw [←ht];simp [ZJ],fun x hx=>hf x (by simp [hx]),?_⟩,⟨h2.only.mono (fun i hi=>List.mem_cons_of_mem _ hi),?_⟩,h2.only⟩
 ·intro hm
  rcases List.mem_cons.1 hm with hm|hm
  ·exact n1 hm
  ·exact (n2 wb (by simpa using hm)).1 rfl
 ·rw [List.length_append];simp only [List.length_cons] at hl;omega
 ·intro i hi;simp only [List.mem_cons,Option.mem_toList] at hi
  rcases hi with rfl|rfl|hi
  ·exact .inl (by simp)
  ·exact .inl (by simp)
  ·rcases h2.new i hi with h3|h3
   ·exact .inl (by simp [h3])
   ·exact .inr h3
theorem zKs (wb sb bb:Nat) (total:List Int):(zMH wb sb bb total).Ok where
 mE:=fun w=>by kernel_rfl
 mC:=fun w=>by kernel_rfl
 mR:=fun w=>by kernel_rfl
 eE:=fun args w=>ZZ Tryz.func215 (by kernel_rfl) (by kernel_rfl) args w
 eC:=fun args w=>ZZ Tryz.func214 (by kernel_rfl) (by kernel_rfl) args w
 eR:=fun args w=>ZZ Tryz.func216 (by kernel_rfl) (by kernel_rfl) args w
 elem:=by
  rintro F r w el inc v most v' ⟨ov,bs,rfl,hW,hw,ht,hf,hl⟩ hv;obtain rfl:=hv rfl;refine (zJH hW hw (hf _ (by simp)) (by omega)).mono ?_;rintro e w' ⟨rfl,ov',h1,h2⟩;obtain ⟨q1,q2,-⟩:=zHe hW hw ht hf hl h1 rfl h2;exact ⟨rfl,_,q1,q2⟩
 raw:=by
  rintro F r w v v' ⟨ov,bs,rfl,hW,hw,ht,hf,hl⟩ hv h0 h1;obtain rfl:=hv rfl;obtain ⟨x,rfl⟩:=Int.eq_ofNat_of_zero_le h0;refine (zNc hW hw (by omega) (by omega)).mono ?_;rintro e w' ⟨rfl,ov',h1,h2⟩;obtain ⟨q1,q2,-⟩:=zHe hW hw ht hf hl h1 rfl h2;exact ⟨rfl,_,q1,q2⟩
 coefs:=by
  rintro F r w cs cat inc mb off cap X ⟨ov,bs,rfl,hW,hw,ht,hf,hl⟩ hB ho hc hm hn hv;have hX:=hv rfl;have hfine:=zAU (show zA1 cs cat inc=true from hf (.coefs cs cat inc) (by simp));have hmay:=zAe hfine.1;simp only [List.mem_cons,Option.mem_toList,not_or] at hm;refine (zLg hW hw (hB.ints (by omega) hX) (by omega) hfine.2 (by omega) hm.2.1 hm.2.2).mono ?_;rintro e w' ⟨rfl,ov',h1,h2⟩;obtain ⟨q1,q2,q3⟩:=zHe hW hw ht hf hl h1 rfl h2;refine ⟨rfl,_,q1,⟨q2.only.mono (fun i hi=>List.mem_cons_of_mem _ hi),fun i hi=>(q2.new i hi).elim (fun h=> .inl (List.mem_cons_of_mem _ h)) .inr⟩,?_,?_⟩
  ·intro hi
   rcases q2.new mb hi with h|h
   ·simp only [List.mem_cons,Option.mem_toList] at h
    rcases h with h|h|h
    ·exact hm.1 h
    ·exact hm.2.1 h
    ·exact hm.2.2 h
   ·have:=hB.lt;omega
  ·rw [zIe hX];exact hB.only q3 (by simp;exact ⟨hm.2.1,hm.2.2⟩)
 keep:=by
  rintro F r w w' X ⟨ov,bs,rfl,hW,hw,ht,hf,hl⟩ ho hX;exact ⟨ov,bs,rfl,hW.only ho (hX wb (by simp)),hw.only ho (hX bb (by simp)) (fun g hg=>hX g (by simp [hg])),ht,hf,hl⟩
 low:=by
  rintro F r w ⟨ov,bs,rfl,hW,hw,ht,hf,hl⟩ i hi;simp only [List.mem_cons,Option.mem_toList] at hi;obtain ⟨c,hc⟩:=hw.cells
  rcases hi with rfl|rfl|hi
  ·exact lt_of_block hW
  ·exact lt_of_block hc
  ·obtain ⟨cur,hcur⟩:=zD hw.out hi;exact lt_of_block hcur
theorem EncIs.only {w w':World} {b tb sb:Nat} {ov:Value} {e:Enc} {S:List Nat} (h:EncIs w b tb sb ov e) (ho:Only S w w') (h1:b∉S) (h2:tb∉S) (h3:sb∉S) (h4:∀ g,ov.ownBlock=some g→g∉S):EncIs w' b tb sb ov e:=
 ⟨ho.heap h.cells h1,h.tab.only ho h2,ho.heap h.sts h3,zF h.out fun g hg=>by
  obtain ⟨cur,hc⟩:=zD h.out hg;exact ho.block g (lt_of_block hc) (h4 g hg)⟩
theorem EncAt.bare {w:World} {b tb sb:Nat} {ov:Value} {e:Enc} (h:EncIs w b tb sb ov e) (hg:e.Good):EncAt { w with heap:=#[] } w b tb sb ov e:=
 ⟨h,hg,⟨rfl,rfl,rfl,Nat.zero_le _,fun k hk _=>absurd hk (Nat.not_lt_zero k)⟩,Nat.zero_le _,Nat.zero_le _,Nat.zero_le _,fun _ _=>Nat.zero_le _⟩
theorem zK8 (e:Enc) {el inc v most:Int} (h:e.Live) (hst:e.st.length=256) (hf:(Ask.elem el inc v most).fine):(e.elem el inc v most).2=e.run (ZV el inc v most):=by
 rw [Enc.elem_live e el inc v most h hst,if_pos ⟨hf.2.1,hf.2.2.1,hf.2.2.2⟩]
theorem zJM {wb sb bb eb tb sk:Nat} {over:Bool} {ov:Value} {e:Enc} {el inc v most:Int} {w:World} (hW:WcIs w wb sb bb (.pointer (some ⟨eb,0,none⟩)) over) (h:EncIs w eb tb sk ov e) (hl:e.Live) (hst:e.st.length=256) (hf:(Ask.elem el inc v most).fine) (hc:e.cost<390000000):
 Calls Tryz.prog 215 #[.pointer (some ⟨wb,0,none⟩),.int .i64 el,.int .i64 inc,.int .i64 v,.int .i64 most] w fun r w'=>r=.returned (.int .i64 v)∧∃ ov',EncIs w' eb tb sk ov' (e.run (ZV el inc v most))∧EncGo w w' eb sk ov ov':=by
 obtain ⟨-,-,c2,-⟩:=hW.cells;have hput:=zIg (EncAt.bare h hl.good) (by omega) el inc v most;rw [zK8 e hl hst hf] at hput;have HP:=zh hput;clear hput hW h hl hst hf
 go_enter Tryz.func215,Tryz.ntmps215
 go_wp2_with fail
 refine HP.out.mono ?_;rintro r w1 ⟨rfl,ov1,h1,h2⟩;have H1:=zh h1.is;have H2:=zh h2;clear h1 h2 HP;go_wp2;go_ret;exact ⟨rfl,ov1,H1.out,H2.out⟩
theorem zLj {wb sb bb eb tb sk g off cap:Nat} {over:Bool} {ov:Value} {e:Enc} {cs:List Int} {cat inc:Int} {w:World} (hW:WcIs w wb sb bb (.pointer (some ⟨eb,0,none⟩)) over) (h:EncIs w eb tb sk ov e) (hl:e.Live) (hst:e.st.length=256) (hv:IntSlice w (.slice (some ⟨g,off,none⟩) cs.length cap) cs) (hf:zA1 cs cat inc=true) (hc:e.cost<390000000):
 Calls Tryz.prog 214 #[.pointer (some ⟨wb,0,none⟩),.slice (some ⟨g,off,none⟩) cs.length cap,.int .i64 cat,.int .i64 inc] w fun r w'=>r=.returned (.tuple #[])∧∃ ov',EncIs w' eb tb sk ov' (e.run (zZ cs cat inc))∧EncGo w w' eb sk ov ov':=by
 obtain ⟨-,-,c2,-⟩:=hW.cells;have hput:=zMQ (EncAt.bare h hl.good) hl hst (by omega) _ cs cat inc hv;rw [hf,if_pos rfl] at hput;obtain ⟨n,hn⟩:∃ n,n=cs.length:=⟨_,rfl⟩;rw [←hn] at hput ⊢;have HP:=zh hput;clear hput hW h hl hst hf hv hn
 go_enter Tryz.func214,Tryz.ntmps214
 go_wp2_with fail
 refine HP.out.mono ?_;rintro r w1 ⟨rfl,ov1,h1,h2⟩;have H1:=zh h1.is;have H2:=zh h2;clear h1 h2 HP;go_wp2;go_end0;exact ⟨rfl,ov1,H1.out,H2.out⟩
theorem EncIs.ne {w:World} {wb sb bb eb tb sk:Nat} {over:Bool} {ov ev:Value} {e:Enc} (hW:WcIs w wb sb bb ev over) (h:EncIs w eb tb sk ov e):wb≠eb∧wb≠tb∧wb≠sk∧∀ g,ov.ownBlock=some g→wb≠g:=by
 unfold WcIs at hW;refine ⟨ZC hW h.cells (by decide),ZC hW h.tab (by decide),ZC hW h.sts (by decide),fun g hg=>?_⟩;obtain ⟨cur,hcur⟩:=zD h.out hg;exact ZC hW hcur (by decide)
theorem zDK (x:Nat) (m:Nat):Ze x (m+1)=.byp ((x/2^m%2:Nat):Int)::Ze x m:=by
 show Deed.byp ((x:Int)/2^m%2)::Ze x m=_
 congr 2
theorem zNf {wb sb bb eb tb sk:Nat} {over:Bool} {ov:Value} {e:Enc} {x:Nat} {w:World} (hW:WcIs w wb sb bb (.pointer (some ⟨eb,0,none⟩)) over) (h:EncIs w eb tb sk ov e) (hl:e.Live) (hx:x≤255) (hc:e.cost<390000000):
 Calls Tryz.prog 216 #[.pointer (some ⟨wb,0,none⟩),.int .u8 x] w fun r w'=>r=.returned (.int .u8 x)∧∃ ov',EncIs w' eb tb sk ov' (e.run (Ze x 8))∧EncGo w w' eb sk ov ov':=by
 have hn:=h.ne hW;have HW:=zh hW;have H:=zh h;have HL:=zh hl;have Hn:=zh hn;clear hW h hl hn
 go_enter Tryz.func216,Tryz.ntmps216
 go_wp2
 go_loopw [5] (fun q wr=>∃ (m:Nat) (ov1:Value) (e1:Enc),m≤8∧q=.int .i64 ((m:Int)-1)∧EncIs wr eb tb sk ov1 e1∧EncGo w wr eb sk ov ov1∧Hid (e1.Live)∧Hid (e1.cost≤e.cost+8*(8-m))∧Hid (e1.run (Ze x m)=e.run (Ze x 8))) (fun q _=>(intOf q+1).toNat)
 case atStart=>exact ⟨8,ov,e,Nat.le_refl _,rfl,H.out,EncGo.refl _ _ _ _,HL,zh (by omega),zh rfl⟩
 case round=>
  obtain ⟨m,ov1,e1,hm,rfl,h1,g1,hl1,hc1,hr1⟩:=hrel;have hWr:WcIs wr wb sb bb (.pointer (some ⟨eb,0,none⟩)) over:=HW.out.only g1.only (by
   simp only [List.mem_cons,Option.mem_toList,not_or];exact ⟨Hn.out.1,Hn.out.2.2.1,fun e=>(Hn.out.2.2.2 wb e) rfl⟩)
  obtain ⟨-,-,c2,-⟩:=hWr.cells;have H1:=zh h1;have G1:=zh g1;have HWr:=zh hWr
  by_cases h0:m=0
  ·subst h0;have hr2:e1=e.run (Ze x 8):=hr1.out;have HR:=zh hr2;clear h1 g1 hWr hr2;go_wp2;go_ret;exact ⟨rfl,ov1,by rw [←HR.out];exact H1.out,G1.out⟩
  ·obtain ⟨k,rfl⟩:∃ k,m=k+1:=⟨m-1,by omega⟩;have hr2:=hr1.out;rw [zDK] at hr2;obtain ⟨y,hy⟩:∃ y,y=x/2^k%2:=⟨_,rfl⟩;rw [←hy] at hr2;have hyb:y=0∨y=1:=by rw [hy];omega
   have hbit:(x:Int)/2^k%2=(y:Int):=by
    rw [hy]
    push_cast
    rfl
   have hw2:IntKind.i64.wrap (x:Int)=(x:Int):=sw _ (by omega) (by omega);have hki:((k+1:Nat):Int)-1=(k:Int):=by omega
   rw [hki];have Hbit:=zh hbit;have HR:=zh hr2;clear h1 g1 hWr hr1 hr2 hy hbit
   go_wp2_with fail
   go_still_tail 9,(by kernel_rfl)
   change wpList _ _ _ _ _ wr.drew
   have h3:EncIs wr.drew eb tb sk ov1 e1:=H1.out.drew;have g3:EncGo w wr.drew eb sk ov ov1:=⟨G1.out.only.drew,G1.out.new⟩;have H3:=zh h3;have G3:=zh g3;clear h3 g3 H1 G1 c2 HWr;generalize wr.drew=wd at*
   go_wp2_with fail
   rw [Hbit.out];refine ((EncAt.bare H3.out hl1.out.good).bypass (y:Int) (by have:=hc1.out;omega)).mono ?_;rintro r w1 ⟨rfl,ov2,h4,g4⟩;have hlv:=Enc.live_bypass e1 (y:Int) hl1.out (by omega);have hgc:=Enc.good_bypass e1 (y:Int) hl1.out.good;have H4:=zh h4.is;have G4:=zh (G3.out.trans g4);have HL4:Hid ((e1.bypass (y:Int)).Live):=zh hlv.1;have HC4:Hid ((e1.bypass (y:Int)).cost≤e.cost+8*(8-k)):=zh (by have:=hgc.2;have:=hc1.out;omega);have HR4:Hid ((e1.bypass (y:Int)).run (Ze x k)=e.run (Ze x 8)):=zh HR.out;clear h4 g4 hlv hgc;go_wp2;exact ⟨⟨k,ov2,_,by omega,rfl,H4.out,G4.out,HL4,HC4,HR4⟩,by simp [intOf]⟩
def zMI (wb sb bb eb tb sk:Nat) (ov2:Value) (bs0:List Int) (total:Enc):Cod where
 C F acts w:=∃ (ov:Value) (e:Enc),F=wb::bb::eb::tb::sk::(ov.ownBlock.toList++ov2.ownBlock.toList)∧WcIs w wb sb bb (.pointer (some ⟨eb,0,none⟩)) false∧EncIs w eb tb sk ov e∧e.Live∧e.st.length=256∧WrIs w bb ov2 bs0∧(∀ g,ov.ownBlock=some g→ov2.ownBlock≠some g)∧
  e.run (zd acts)=total∧(∀ a∈acts,a.fine)∧e.cost+40000*acts.length≤380000000
 wr:=true
 T:=31
 pv:=.pointer (some ⟨wb,0,none⟩)
 fE:=215
 fC:=214
 fR:=216
theorem EncIs.low {w:World} {b tb sb:Nat} {ov:Value} {e:Enc} (h:EncIs w b tb sb ov e):b<w.heap.size∧tb<w.heap.size∧sb<w.heap.size∧∀ g,ov.ownBlock=some g→g<w.heap.size:=
 ⟨lt_of_block h.cells,lt_of_block h.tab,lt_of_block h.sts,fun _ hg=>by obtain ⟨c,hc⟩:=zD h.out hg;exact lt_of_block hc⟩
theorem WrIs.low {w:World} {b:Nat} {ov:Value} {bs:List Int} (h:WrIs w b ov bs):b<w.heap.size∧∀ g,ov.ownBlock=some g→g<w.heap.size:=by
 obtain ⟨c,hc⟩:=h.cells;exact ⟨lt_of_block hc,fun _ hg=>by obtain ⟨c,hc⟩:=zD h.out hg;exact lt_of_block hc⟩
theorem zHh {w w':World} {wb sb bb eb tb sk:Nat} {ov ov' ov2:Value} {bs0:List Int} {e e' total:Enc} {a:Ask} {r:List Ask} (hW:WcIs w wb sb bb (.pointer (some ⟨eb,0,none⟩)) false) (h:EncIs w eb tb sk ov e) (hl:e.Live) (hst:e.st.length=256) (hw:WrIs w bb ov2 bs0) (hd:∀ g,ov.ownBlock=some g→ov2.ownBlock≠some g)
 (ht:e.run (zd (a::r))=total) (hf:∀ x∈a::r,x.fine) (hc:e.cost+40000*(a::r).length≤380000000) (h1:EncIs w' eb tb sk ov' e') (he:e'=e.run a.deeds) (h2:EncGo w w' eb sk ov ov'):
 (zMI wb sb bb eb tb sk ov2 bs0 total).C (wb::bb::eb::tb::sk::(ov'.ownBlock.toList++ov2.ownBlock.toList)) r w'∧CGo (wb::bb::eb::tb::sk::(ov.ownBlock.toList++ov2.ownBlock.toList)) (wb::bb::eb::tb::sk::(ov'.ownBlock.toList++ov2.ownBlock.toList)) w w'∧Only (eb::sk::ov.ownBlock.toList) w w':=by
 subst he;obtain ⟨n1,n2,n3,n4⟩:=h.ne hW;have hlv:=e.live_run a.deeds hl (by rw [hst];exact a.deeds_fits (hf a (by simp)));have hlen:=a.deeds_length (hf a (by simp));obtain ⟨c,hcc⟩:=hw.cells;have hbe:bb≠eb:=ZC hcc h.cells (by decide);have hbs:bb≠sk:=ZC hcc h.sts (by decide);have hbo:∀ g,ov.ownBlock=some g→bb≠g:=fun g hg=>by
  obtain ⟨cur,hcur⟩:=zD h.out hg;exact ZC hcc hcur (by decide)
 have hoe:∀ g,ov2.ownBlock=some g→g≠eb∧g≠sk:=fun g hg=>by
  obtain ⟨cur,hcur⟩:=zD hw.out hg;exact ⟨ZC hcur h.cells (by decide),ZC hcur h.sts (by decide)⟩
 refine ⟨⟨ov',_,rfl,hW.only h2.only ?_,h1,hlv.1,by rw [hlv.2.1,hst],hw.only h2.only ?_ ?_,?_,?_,fun x hx=>hf x (by simp [hx]),?_⟩,⟨h2.only.mono ?_,?_⟩,h2.only⟩
 ·simp only [List.mem_cons,Option.mem_toList,not_or];exact ⟨n1,n3,fun e=>n4 wb e rfl⟩
 ·simp only [List.mem_cons,Option.mem_toList,not_or];exact ⟨hbe,hbs,fun e=>hbo bb e rfl⟩
 ·intro g hg;simp only [List.mem_cons,Option.mem_toList,not_or];exact ⟨(hoe g hg).1,(hoe g hg).2,fun e=>hd g e hg⟩
 ·intro g hg hg2
  rcases h2.new g hg with h3|h3
  ·exact hd g h3 hg2
  ·have:=hw.low.2 g hg2;omega
 ·rw [←ht]
  show (e.run a.deeds).run (zd r)=e.run (a.deeds++zd r)
  rw [Enc.run_append]
 ·have:=hlv.2.2;simp only [List.length_cons] at hc;omega
 ·intro i hi;simp only [List.mem_cons,List.mem_append,Option.mem_toList] at hi ⊢
  rcases hi with h3|h3|h3
  ·exact .inr (.inr (.inl h3))
  ·exact .inr (.inr (.inr (.inr (.inl h3))))
  ·exact .inr (.inr (.inr (.inr (.inr (.inl h3)))))
 ·intro i hi;simp only [List.mem_cons,List.mem_append,Option.mem_toList] at hi ⊢
  rcases hi with h3|h3|h3|h3|h3|h3|h3
  ·exact .inl (.inl h3)
  ·exact .inl (.inr (.inl h3))
  ·exact .inl (.inr (.inr (.inl h3)))
  ·exact .inl (.inr (.inr (.inr (.inl h3))))
  ·exact .inl (.inr (.inr (.inr (.inr (.inl h3)))))
  ·rcases h2.new i h3 with h4|h4
   ·exact .inl (.inr (.inr (.inr (.inr (.inr (.inl h4))))))
   ·exact .inr h4
  ·exact .inl (.inr (.inr (.inr (.inr (.inr (.inr h3))))))
theorem zKy (wb sb bb eb tb sk:Nat) (ov2:Value) (bs0:List Int) (total:Enc):(zMI wb sb bb eb tb sk ov2 bs0 total).Ok where
 mE:=fun w=>by kernel_rfl
 mC:=fun w=>by kernel_rfl
 mR:=fun w=>by kernel_rfl
 eE:=fun args w=>ZZ Tryz.func215 (by kernel_rfl) (by kernel_rfl) args w
 eC:=fun args w=>ZZ Tryz.func214 (by kernel_rfl) (by kernel_rfl) args w
 eR:=fun args w=>ZZ Tryz.func216 (by kernel_rfl) (by kernel_rfl) args w
 elem:=by
  rintro F r w el inc v most v' ⟨ov,e,rfl,hW,h,hl,hst,hw,hd,ht,hf,hc⟩ hv;obtain rfl:=hv rfl;refine (zJM hW h hl hst (hf _ (by simp)) (by omega)).mono ?_;rintro e9 w' ⟨rfl,ov',h1,h2⟩;obtain ⟨q1,q2,-⟩:=zHh hW h hl hst hw hd ht hf hc h1 rfl h2;exact ⟨rfl,_,q1,q2⟩
 raw:=by
  rintro F r w v v' ⟨ov,e,rfl,hW,h,hl,hst,hw,hd,ht,hf,hc⟩ hv h0 h1;obtain rfl:=hv rfl;obtain ⟨x,rfl⟩:=Int.eq_ofNat_of_zero_le h0;refine (zNf hW h hl (by omega) (by omega)).mono ?_;rintro e9 w' ⟨rfl,ov',h1,h2⟩;obtain ⟨q1,q2,-⟩:=zHh hW h hl hst hw hd ht hf hc h1 rfl h2;exact ⟨rfl,_,q1,q2⟩
 coefs:=by
  rintro F r w cs cat inc mb off cap X ⟨ov,e,rfl,hW,h,hl,hst,hw,hd,ht,hf,hc⟩ hB ho hcp hm hn hv;have hX:=hv rfl;have hfine:=show zA1 cs cat inc=true from hf (.coefs cs cat inc) (by simp)
  simp only [List.mem_cons,List.mem_append,Option.mem_toList,not_or] at hm;refine (zLj hW h hl hst (hB.ints (by omega) hX) hfine (by omega)).mono ?_;rintro e9 w' ⟨rfl,ov',h1,h2⟩;obtain ⟨q1,q2,q3⟩:=zHh hW h hl hst hw hd ht hf hc h1 rfl h2;refine ⟨rfl,_,q1,⟨q2.only.mono (fun i hi=>List.mem_cons_of_mem _ hi),fun i hi=>(q2.new i hi).elim (fun h=> .inl (List.mem_cons_of_mem _ h)) .inr⟩,?_,?_⟩
  ·intro hi
   rcases q2.new mb hi with h|h
   ·simp only [List.mem_cons,List.mem_append,Option.mem_toList] at h
    rcases h with h|h|h|h|h|h|h
    ·exact hm.1 h
    ·exact hm.2.1 h
    ·exact hm.2.2.1 h
    ·exact hm.2.2.2.1 h
    ·exact hm.2.2.2.2.1 h
    ·exact hm.2.2.2.2.2.1 h
    ·exact hm.2.2.2.2.2.2 h
   ·have:=hB.lt;omega
  ·rw [zIe hX];refine hB.only q3 ?_;simp only [List.mem_cons,Option.mem_toList,not_or];exact ⟨hm.2.2.1,hm.2.2.2.2.1,hm.2.2.2.2.2.1⟩
 keep:=by
  rintro F r w w' X ⟨ov,e,rfl,hW,h,hl,hst,hw,hd,ht,hf,hc⟩ ho hX;exact ⟨ov,e,rfl,hW.only ho (hX wb (by simp)),h.only ho (hX eb (by simp)) (hX tb (by simp)) (hX sk (by simp)) (fun g hg=>hX g (by simp [hg])),hl,hst,hw.only ho (hX bb (by simp)) (fun g hg=>hX g (by simp [hg])),hd,ht,hf,hc⟩
 low:=by
  rintro F r w ⟨ov,e,rfl,hW,h,hl,hst,hw,hd,ht,hf,hc⟩ i hi;simp only [List.mem_cons,List.mem_append,Option.mem_toList] at hi;have l1:=h.low;have l2:=hw.low
  rcases hi with rfl|rfl|rfl|rfl|rfl|h3|h3
  ·exact lt_of_block hW
  ·exact l2.1
  ·exact l1.1
  ·exact l1.2.1
  ·exact l1.2.2.1
  ·exact l1.2.2.2 i h3
  ·exact l2.2 i h3
theorem zFs (x:Int) (w:World):Calls Tryz.prog 266 #[.int .i64 x,.int .i64 0] w fun r w'=>r=.returned (.int .i64 x)∧w=w':=by
 go_enter Tryz.func266,Tryz.ntmps266
 go_wp2;go_ret;exact ⟨rfl,rfl⟩
theorem zJh (ao:Option Addr) (n cap:Nat) (w:World):Calls Tryz.prog 263 #[.slice ao n cap,.int .i64 0] w fun r w'=>r=.returned (.slice ao n cap)∧w=w':=by
 go_enter Tryz.func263,Tryz.ntmps263
 go_wp2;go_ret;exact ⟨rfl,rfl⟩
def RcIs (w:World) (rb sb bb:Nat) (s:ByteArray) (dv:Value) (from_ code:Int) (over:Bool):Prop:=w.heap[rb]? =some (.cells #[.pointer (some ⟨sb,0,none⟩),.string s,.pointer (some ⟨bb,0,none⟩),dv,.int .i64 from_,.int .i64 code,.bool over] 118 (0,0))
theorem RcIs.only {w w':World} {S:List Nat} {rb sb bb:Nat} {s:ByteArray} {dv:Value} {fr code:Int} {over:Bool} (h:RcIs w rb sb bb s dv fr code over) (ho:Only S w w') (hb:rb∉S):RcIs w' rb sb bb s dv fr code over:=ho.heap h hb
theorem RcIs.cells {w:World} {rb sb bb:Nat} {s:ByteArray} {dv:Value} {fr code:Int} {over:Bool} (h:RcIs w rb sb bb s dv fr code over):w.cell? ⟨rb,0,none⟩=some (.pointer (some ⟨sb,0,none⟩))∧w.cell? ⟨rb,1,none⟩=some (.string s)∧w.cell? ⟨rb,2,none⟩=some (.pointer (some ⟨bb,0,none⟩))∧w.cell? ⟨rb,3,none⟩=some dv∧w.cell? ⟨rb,4,none⟩=some (.int .i64 fr)∧w.cell? ⟨rb,5,none⟩=some (.int .i64 code)∧w.cell? ⟨rb,6,none⟩=some (.bool over):=by
 refine ⟨?_,?_,?_,?_,?_,?_,?_⟩<;>(rw [zA h];rfl)
theorem zJI {rb sb bb:Nat} {over:Bool} {fr code:Int} {s t:ByteArray} {p:Nat} {el inc v v' most:Int} {w:World} (hW:RcIs w rb sb bb t (.pointer none) fr code over) (h:RdIs w bb s p) (hH:Holds s p (zAf el v most)) (hf:(Ask.elem el inc v most).fine) (hs:s.size≤140737488355328):
 Calls Tryz.prog 261 #[.pointer (some ⟨rb,0,none⟩),.int .i64 el,.int .i64 inc,.int .i64 v',.int .i64 most] w fun r w'=>r=.returned (.int .i64 v)∧RdIs w' bb s (p+(zAf el v most).length)∧Only [bb] w w':=by
 obtain ⟨-,-,c2,c3,-⟩:=hW.cells;have H:=zh h;unfold zAf at hH ⊢
 cases hsh:zBR el with
 |true=>
  obtain ⟨m1,m2,v1,v2⟩:=zDw hf hsh;obtain ⟨x,rfl⟩:=Int.eq_ofNat_of_zero_le v1;obtain ⟨M,rfl⟩:=Int.eq_ofNat_of_zero_le (show 0≤most by omega);have Hs:=zh hsh;rw [hsh,if_pos rfl] at hH;rw [if_pos rfl];have HH:=zh hH;clear hf hW h hsh hH
  go_enter Tryz.func261,Tryz.ntmps261
  go_wp2_with fail
  refine (zCe el w).mono ?_;rintro r w1 ⟨rfl,rfl⟩;rw [Hs.out]
  go_wp2_with fail
  refine (zNL bb s p x M w H.out HH.out (by omega) (by omega) (by omega) hs).mono ?_;rintro r w1 ⟨rfl,h1,h2⟩;have H1:=zh h1;have H2:=zh h2;clear h1 h2
  go_wp2_with fail
  refine (zFs _ w1).mono ?_;rintro r w2 ⟨rfl,rfl⟩;go_wp2;go_ret;exact ⟨rfl,H1.out,H2.out⟩
 |false=>
  rw [hsh,if_neg (by decide)] at hH;rw [if_neg (by decide)]
  cases hg:zBb el with
  |true=>
   obtain ⟨v1,v2⟩:=zC6 hf hg;rw [hg,if_pos rfl] at hH;rw [if_pos rfl];have Hs:=zh hsh;have HH:=zh hH;simp only [zBb,decide_eq_true_eq] at hg;clear hf hW h hsh hH
   rcases hg with rfl|rfl|rfl
   all_goals
    go_enter Tryz.func261,Tryz.ntmps261
    go_wp2_with fail
    refine (zCe _ w).mono ?_;rintro r w1 ⟨rfl,rfl⟩;rw [Hs.out]
    go_wp2_with fail
    refine (zNM bb s p v w H.out HH.out (by omega) (by omega) hs).mono ?_;rintro r w1 ⟨rfl,h1,h2⟩;have H1:=zh h1;have H2:=zh h2;clear h1 h2
    go_wp2_with fail
    refine (zFs _ w1).mono ?_;rintro r w2 ⟨rfl,rfl⟩;go_wp2;go_ret;exact ⟨rfl,H1.out,H2.out⟩
  |false=>
   obtain ⟨he,hv⟩:=zHL hf hsh hg;rw [hg,if_neg (by decide)] at hH;rw [if_neg (by decide)];obtain ⟨x,rfl⟩:=Int.eq_ofNat_of_zero_le (show 0≤v by omega);have Hs:=zh hsh;have HH:=zh hH;have hx:x<2^1:=by omega
   clear hf hW h hsh hg hv hH
   rcases he with rfl|rfl
   all_goals
    go_enter Tryz.func261,Tryz.ntmps261
    go_wp2_with fail
    refine (zCe _ w).mono ?_;rintro r w1 ⟨rfl,rfl⟩;rw [Hs.out]
    go_wp2_with fail
    refine (zCL bb s p x 1 w H.out HH.out hx (by decide) hs).mono ?_;rintro r w1 ⟨rfl,h1,h2⟩;have H1:=zh h1;have H2:=zh h2;clear h1 h2
    go_wp2_with fail
    refine (zFs _ w1).mono ?_;rintro r w2 ⟨rfl,rfl⟩;go_wp2;go_ret;exact ⟨rfl,H1.out,H2.out⟩
theorem zF8 (n off:Nat) (X:Nat→Value) (cs:List Int) (h:off+cs.length≤n):
 ((fnA n X).toList.take off++(cs.map (Value.int .i64)++(fnA n X).toList.drop (off+cs.length))).toArray=fnA n (fun j=>if off≤j∧j<off+cs.length then .int .i64 (cs.getD (j-off) 0) else X j):=by
 unfold fnA
 congr 1
 apply List.ext_getElem?
 intro j
 by_cases h1:j<off
 ·rw [List.getElem?_append_left (by simp;omega),List.getElem?_take_of_lt h1];have hj:j<n:=by omega
  simp [hj,show ¬ off≤j by omega]
 ·rw [List.getElem?_append_right (by simp;omega),show ((List.range n).map X).toArray.toList.take off=((List.range n).map X).take off from rfl,List.length_take,List.length_map,List.length_range,show min off n=off by omega]
  by_cases h2:j<off+cs.length
  ·rw [List.getElem?_append_left (by simp;omega)];have hj:j<n:=by omega
   have hk:j-off<cs.length:=by omega
   simp [hj,hk,show off≤j by omega,h2,List.getD]
  ·rw [List.getElem?_append_right (by simp;omega)];simp only [List.length_map];rw [List.getElem?_drop,show off+cs.length+(j-off-cs.length)=j by omega]
   by_cases hj:j<n
   ·simp [hj,h2]
   ·simp [hj]
theorem zLh {rb sb bb mb off cap:Nat} {over:Bool} {fr code:Int} {s t:ByteArray} {p:Nat} {cs:List Int} {cat inc:Int} {X:Nat→Value} {w:World} (hW:RcIs w rb sb bb t (.pointer none) fr code over) (h:RdIs w bb s p) (hH:Holds s p (zEG cs)) (hB:BlkIn w mb 483 51 X) (ho:off+cs.length≤482)
 (hsz:cs.length=4∨cs.length=15∨cs.length=16) (hr:rangeB cs=true) (hne:mb≠bb) (hs:s.size≤140737488355328):
 Calls Tryz.prog 260 #[.pointer (some ⟨rb,0,none⟩),.slice (some ⟨mb,off,none⟩) cs.length cap,.int .i64 cat,.int .i64 inc] w fun r w'=>r=.returned (.tuple #[])∧RdIs w' bb s (p+(zEG cs).length)∧Only [bb,mb] w w'∧
  BlkIn w' mb 483 51 (fun j=>if off≤j∧j<off+cs.length then .int .i64 (cs.getD (j-off) 0) else X j):=by
 obtain ⟨-,-,c2,c3,-⟩:=hW.cells;have hget:=zNT bb s p cs w h hH hsz hr hs;have hbs:=lt_of_block h;have hms:=hB.lt;have hsp:=zF8 483 off X cs (by omega);obtain ⟨n,hn⟩:∃ n,n=cs.length:=⟨_,rfl⟩;rw [←hn] at hget ho;have HG:=zh hget;have HB:=zh hB;have Hsp:=zh hsp;have Hn:=zh hn;rw [show (Value.slice (some ⟨mb,off,none⟩) cs.length cap)=Value.slice (some ⟨mb,off,none⟩) n cap by rw [hn]];clear hget hB hsp hsz hr h hH hW hn
 go_enter Tryz.func260,Tryz.ntmps260
 go_wp2_with fail
 refine HG.out.mono ?_;rintro r w1 ⟨g,rfl,h1,h2,h3,h4⟩;have hB1:w1.heap[mb]? =some (.cells (fnA 483 X) 51 (0,0)):=HB.out.only h4 (by simpa using hne);have hgc:∀ (j:Nat) (v:Value),(cs.map (Value.int .i64))[j]? =some v→w1.cell? ((⟨g,0,none⟩:Addr).add j)=some v:=by
  intro j v hj;have hjl:j<cs.length:=by
   apply Classical.byContradiction
   intro e;rw [List.getElem?_eq_none (by simp;omega)] at hj
   cases hj
  rw [Addr.add_lit,Nat.zero_add,zA h1,zBh _ _ hjl];rw [List.getElem?_map,List.getElem?_eq_getElem hjl] at hj
  simpa [List.getD,List.getElem?_eq_getElem hjl] using hj
 have H3:=zh h3;have H4:=zh h4;have HB1:=zh hB1;have Hgc:=zh hgc;clear h1 h3 h4 hB1 hgc HG HB
 go_wp2_with fail
 refine (zJh _ _ _ w1).mono ?_;rintro r w2 ⟨rfl,rfl⟩
 go_wp2_with (refine zBm rfl _ _ _ _ rfl 3 (by kernel_rfl) (by kernel_rfl) mb off n cap ⟨g,0,none⟩ n n rfl rfl (fnA 483 X) 51 HB1.out (cs.map (Value.int .i64)) (by simp [Hn.out]) Hgc.out (by simp [fnA];have:=Hn.out;omega) (by simp [Value.oneCell']) ?_)
 intro w3 hg3 ho3;rw [Hsp.out] at hg3;have G3:=zh hg3;have O3:=zh ho3;clear hg3 ho3;go_wp2;go_end0;exact ⟨rfl,H3.out.only O3.out (by simpa using Ne.symm hne),(H4.out.mono (T:=[bb,mb]) (by simp)).trans (O3.out.mono (by simp)),G3.out⟩
theorem zNd {rb sb bb:Nat} {over:Bool} {fr code:Int} {s t:ByteArray} {p x:Nat} {v':Int} {w:World} (hW:RcIs w rb sb bb t (.pointer none) fr code over) (h:RdIs w bb s p) (hH:Holds s p (ZW x 8)) (hx:x≤255) (hs:s.size≤140737488355328):
 Calls Tryz.prog 262 #[.pointer (some ⟨rb,0,none⟩),.int .u8 v'] w fun r w'=>r=.returned (.int .u8 x)∧RdIs w' bb s (p+8)∧Only [bb] w w':=by
 obtain ⟨-,-,c2,c3,-⟩:=hW.cells;have H:=zh h;have HH:=zh hH;have hx2:x<2^8:=by omega
 have hw8:IntKind.u8.wrap (x:Int)=(x:Int):=by rw [IntKind.wrap_u8];omega
 clear hW h hH
 go_enter Tryz.func262,Tryz.ntmps262
 go_wp2_with fail
 refine (zCL bb s p x 8 w H.out HH.out hx2 (by decide) hs).mono ?_;rintro r w1 ⟨rfl,h1,h2⟩;have H1:=zh h1;have H2:=zh h2;clear h1 h2
 go_wp2_with fail
 refine (zFs _ w1).mono ?_;rintro r w2 ⟨rfl,rfl⟩;go_wp2;go_ret;exact ⟨by rw [←hw8];rfl,H1.out,H2.out⟩
def zMX (rb sb bb:Nat) (t s:ByteArray) (fr:Int) (tail:List Int):Cod where
 C F acts w:=∃ p:Nat,F=[rb,bb]∧RcIs w rb sb bb t (.pointer none) fr 0 false∧RdIs w bb s p∧Holds s p (ZJ acts++tail)∧(∀ a∈acts,a.fine)∧p+(ZJ acts++tail).length=8*s.size∧s.size≤140737488355328
 wr:=false
 T:=53
 pv:=.pointer (some ⟨rb,0,none⟩)
 fE:=261
 fC:=260
 fR:=262
theorem RcIs.ne {w:World} {rb sb bb p:Nat} {t s:ByteArray} {dv:Value} {fr code:Int} {over:Bool} (h:RcIs w rb sb bb t dv fr code over) (k:RdIs w bb s p):rb≠bb:=by
 rintro rfl;unfold RcIs at h;unfold RdIs at k;rw [h] at k;simp at k
theorem zJt {w w':World} {rb sb bb p:Nat} {t s:ByteArray} {fr:Int} {tail:List Int} {a:Ask} {r:List Ask} (hW:RcIs w rb sb bb t (.pointer none) fr 0 false) (hR:RdIs w bb s p) (hH:Holds s p (ZJ (a::r)++tail)) (hf:∀ x∈a::r,x.fine)
 (hl:p+(ZJ (a::r)++tail).length=8*s.size) (hs:s.size≤140737488355328) (h1:RdIs w' bb s (p+a.bits.length)) (h2:Only [bb] w w'):
 (zMX rb sb bb t s fr tail).C [rb,bb] r w'∧CGo [rb,bb] [rb,bb] w w':=by
 have e:ZJ (a::r)++tail=a.bits++(ZJ r++tail):=by simp [ZJ]
 rw [e] at hH hl;refine ⟨⟨_,rfl,hW.only h2 (by simpa using hW.ne hR),h1,hH.right,fun x hx=>hf x (by simp [hx]),?_,hs⟩,⟨h2.mono (by simp),fun i hi=> .inl hi⟩⟩;rw [List.length_append] at hl;omega
theorem zLA (rb sb bb:Nat) (t s:ByteArray) (fr:Int) (tail:List Int):(zMX rb sb bb t s fr tail).Ok where
 mE:=fun w=>by kernel_rfl
 mC:=fun w=>by kernel_rfl
 mR:=fun w=>by kernel_rfl
 eE:=fun args w=>ZZ Tryz.func261 (by kernel_rfl) (by kernel_rfl) args w
 eC:=fun args w=>ZZ Tryz.func260 (by kernel_rfl) (by kernel_rfl) args w
 eR:=fun args w=>ZZ Tryz.func262 (by kernel_rfl) (by kernel_rfl) args w
 elem:=by
  rintro F r w el inc v most v' ⟨p,rfl,hW,hR,hH,hf,hl,hs⟩ hv;have hH1:=hH;rw [show ZJ (.elem el inc v most::r)++tail=zAf el v most++(ZJ r++tail) by simp [ZJ,Ask.bits]] at hH1;refine (zJI hW hR hH1.left (hf _ (by simp)) hs).mono ?_;rintro e w' ⟨rfl,h1,h2⟩;obtain ⟨q1,q2⟩:=zJt hW hR hH hf hl hs h1 h2;exact ⟨rfl,_,q1,q2⟩
 raw:=by
  rintro F r w v v' ⟨p,rfl,hW,hR,hH,hf,hl,hs⟩ hv h0 h1;have hH1:=hH;rw [show ZJ (.raw v::r)++tail=ZW v.toNat 8++(ZJ r++tail) by simp [ZJ,Ask.bits]] at hH1;have hv2:0≤v∧v≤255:=hf (.raw v) (by simp);obtain ⟨x,rfl⟩:=Int.eq_ofNat_of_zero_le hv2.1;refine (zNd hW hR hH1.left (by omega) hs).mono ?_;rintro e w' ⟨rfl,h1,h2⟩;obtain ⟨q1,q2⟩:=zJt (a:=.raw (x:Int)) hW hR hH hf hl hs (by show RdIs w' bb s (p+(ZW (x:Int).toNat 8).length);rw [zQ];exact h1) h2;exact ⟨rfl,_,q1,q2⟩
 coefs:=by
  rintro F r w cs cat inc mb off cap X ⟨p,rfl,hW,hR,hH,hf,hl,hs⟩ hB ho hc hm hn hv;have hfine:=zAU (show zA1 cs cat inc=true from hf (.coefs cs cat inc) (by simp));have hmay:=zAe hfine.1;have hH1:=hH;rw [show ZJ (.coefs cs cat inc::r)++tail=zEG cs++(ZJ r++tail) by simp [ZJ,Ask.bits]] at hH1;simp only [List.mem_cons,List.not_mem_nil,or_false,not_or] at hm;refine (zLh hW hR hH1.left hB ho (by omega) hfine.2 hm.2 hs).mono ?_;rintro e w' ⟨rfl,h1,h2,h3⟩;have hlen:(ZJ (.coefs cs cat inc::r)++tail).length=(zEG cs).length+(ZJ r++tail).length:=by
   rw [show ZJ (.coefs cs cat inc::r)++tail=zEG cs++(ZJ r++tail) by simp [ZJ,Ask.bits],List.length_append]
  refine ⟨rfl,[rb,bb],⟨_,rfl,hW.only h2 (by simp;exact ⟨hW.ne hR,Ne.symm hm.1⟩),h1,hH1.right,fun x hx=>hf x (by simp [hx]),by omega,hs⟩,⟨h2.mono (fun i hi=>by simp at hi ⊢;omega),fun i hi=> .inl (List.mem_cons_of_mem _ hi)⟩,by simp;exact ⟨hm.1,hm.2⟩,h3⟩
 keep:=by
  rintro F r w w' X ⟨p,rfl,hW,hR,hH,hf,hl,hs⟩ ho hX;exact ⟨p,rfl,hW.only ho (hX rb (by simp)),hR.only ho (hX bb (by simp)),hH,hf,hl,hs⟩
 low:=by
  rintro F r w ⟨p,rfl,hW,hR,hH,hf,hl,hs⟩ i hi;simp only [List.mem_cons,List.not_mem_nil,or_false] at hi
  rcases hi with rfl|rfl
  ·exact lt_of_block hW
  ·exact lt_of_block hR
theorem DecIs.low {w:World} {b tb sb:Nat} {d:Dec} (h:DecIs w b tb sb d):b<w.heap.size∧tb<w.heap.size∧sb<w.heap.size:=⟨lt_of_block h.cells,lt_of_block h.tab,lt_of_block h.sts⟩
theorem DecAt.bare {w:World} {b tb sb:Nat} {d:Dec} (h:DecIs w b tb sb d) (hg:d.Ok):DecAt { w with heap:=#[] } w b tb sb d:=
 ⟨h,hg,⟨rfl,rfl,rfl,Nat.zero_le _,fun k hk _=>absurd hk (Nat.not_lt_zero k)⟩,Nat.zero_le _,Nat.zero_le _,Nat.zero_le _⟩
theorem zJJ {rb sb bb db tb sk:Nat} {over:Bool} {fr code:Int} {t:ByteArray} {d d':Dec} {el inc v v' most:Int} {w:World} (hW:RcIs w rb sb bb t (.pointer (some ⟨db,0,none⟩)) fr code over) (h:DecIs w db tb sk d) (hk:d.Ok) (hg:d.gives (ZV el inc v most) d') (hf:(Ask.elem el inc v most).fine) (hs:d.s.size≤140737488355328):
 Calls Tryz.prog 261 #[.pointer (some ⟨rb,0,none⟩),.int .i64 el,.int .i64 inc,.int .i64 v',.int .i64 most] w fun r w'=>r=.returned (.int .i64 v)∧DecIs w' db tb sk d'∧d'.Ok∧Only [db,sk] w w':=by
 obtain ⟨-,-,-,c3,-⟩:=hW.cells;have hget:=zIh (DecAt.bare h hk) el inc v most hf.2.1 hf.2.2.1 hf.2.2.2 hg hs;have HG:=zh hget;clear hget hW h hk hg hf
 go_enter Tryz.func261,Tryz.ntmps261
 go_wp2_with fail
 refine HG.out.mono ?_;rintro r w1 ⟨rfl,h1,h2⟩;have H1:=zh h1;have H2:=zh h2;clear h1 h2 HG
 go_wp2_with fail
 refine (zFs _ w1).mono ?_;rintro r w2 ⟨rfl,rfl⟩;go_wp2;go_ret;exact ⟨rfl,H1.out.is,H1.out.ok,H2.out⟩
theorem zLi {rb sb bb db tb sk mb off cap:Nat} {over:Bool} {fr code:Int} {t:ByteArray} {d d':Dec} {cs:List Int} {cat inc:Int} {X:Nat→Value} {w:World} (hW:RcIs w rb sb bb t (.pointer (some ⟨db,0,none⟩)) fr code over) (h:DecIs w db tb sk d) (hk:d.Ok) (hst:d.st.length=256) (hg:d.gives (zZ cs cat inc) d') (hB:BlkIn w mb 483 51 X) (ho:off+cs.length≤482)
 (hf:zA1 cs cat inc=true) (hne:mb≠db∧mb≠sk∧mb≠tb) (hs:d.s.size≤140737488355328):
 Calls Tryz.prog 260 #[.pointer (some ⟨rb,0,none⟩),.slice (some ⟨mb,off,none⟩) cs.length cap,.int .i64 cat,.int .i64 inc] w fun r w'=>r=.returned (.tuple #[])∧DecIs w' db tb sk d'∧d'.Ok∧Only [db,sk,mb] w w'∧
  BlkIn w' mb 483 51 (fun j=>if off≤j∧j<off+cs.length then .int .i64 (cs.getD (j-off) 0) else X j):=by
 obtain ⟨-,-,-,c3,-⟩:=hW.cells;have hfine:=zAU hf;have hsz:=zAe hfine.1;have hget:=zMR (DecAt.bare h hk) cs cat inc hfine.1 hfine.2 hg hs hst;have hms:=hB.lt;have hsp:=zF8 483 off X cs (by omega);obtain ⟨n,hn⟩:∃ n,n=cs.length:=⟨_,rfl⟩;rw [←hn] at hget ho;have hn4:4≤n:=by omega
 have HG:=zh hget;have HB:=zh hB;have Hsp:=zh hsp;have Hn:=zh hn;have Hne:=zh hne;rw [show (Value.slice (some ⟨mb,off,none⟩) cs.length cap)=Value.slice (some ⟨mb,off,none⟩) n cap by rw [hn]];clear hget hB hsp h hk hst hg hf hfine hsz hW hn hne
 go_enter Tryz.func260,Tryz.ntmps260
 go_wp2_with fail
 refine HG.out.mono ?_;rintro r w1 ⟨g,capg,rfl,h1,h3,h4⟩;have hB1:w1.heap[mb]? =some (.cells (fnA 483 X) 51 (0,0)):=HB.out.only h4 (by simp;exact ⟨Hne.out.1,Hne.out.2.1⟩);have hgc:∀ (j:Nat) (v:Value),(cs.map (Value.int .i64))[j]? =some v→w1.cell? ((⟨g,0,none⟩:Addr).add j)=some v:=by
  intro j v hj;have hjl:j<cs.length:=by
   apply Classical.byContradiction
   intro e;rw [List.getElem?_eq_none (by simp;omega)] at hj
   cases hj
  obtain ⟨ao,cap9,hv9,hx9⟩:=h1;injection hv9 with e1 e2 e3
  rcases hx9 with h0|⟨g9,off9,h5,h6⟩
  ·rw [h0] at hjl;simp at hjl
  ·rw [h5] at e1;injection e1 with e1
   injection e1 with e1 e4
   subst e1 e4;have h7:=h6 j hjl;rw [Nat.zero_add] at h7;rw [Addr.add_lit,Nat.zero_add,h7];rw [List.getElem?_map,List.getElem?_eq_getElem hjl] at hj
   simpa [List.getD,List.getElem?_eq_getElem hjl] using hj
 have H3:=zh h3;have H4:=zh h4;have HB1:=zh hB1;have Hgc:=zh hgc;clear h1 h3 h4 hB1 hgc HG HB
 go_wp2_with fail
 refine (zJh _ _ _ w1).mono ?_;rintro r w2 ⟨rfl,rfl⟩
 go_wp2_with (refine zBm rfl _ _ _ _ rfl 3 (by kernel_rfl) (by kernel_rfl) mb off n cap ⟨g,0,none⟩ n capg rfl rfl (fnA 483 X) 51 HB1.out (cs.map (Value.int .i64)) (by simp [Hn.out]) Hgc.out (by simp [fnA];have:=Hn.out;omega) (by simp [Value.oneCell']) ?_)
 intro w3 hg3 ho3;rw [Hsp.out] at hg3;have G3:=zh hg3;have O3:=zh ho3;clear hg3 ho3;go_wp2;go_end0;exact ⟨rfl,H3.out.is.only O3.out (by simpa using Ne.symm Hne.out.1) (by simpa using Ne.symm Hne.out.2.2) (by simpa using Ne.symm Hne.out.2.1),H3.out.ok,(H4.out.mono (T:=[db,sk,mb]) (by simp)).trans (O3.out.mono (by simp)),G3.out⟩
theorem zKQ {d d':Dec} {x m:Nat} (h:d.gives (Ze x (m+1)) d'):∃ d1,d.bypass=(((x/2^m%2:Nat):Int),0,d1)∧d1.s=d.s∧d1.gives (Ze x m) d':=by
 rw [zDK] at h;exact h
theorem zNe {rb sb bb db tb sk:Nat} {over:Bool} {fr code:Int} {t:ByteArray} {d d':Dec} {x:Nat} {v':Int} {w:World} (hW:RcIs w rb sb bb t (.pointer (some ⟨db,0,none⟩)) fr code over) (h:DecIs w db tb sk d) (hk:d.Ok) (hg:d.gives (Ze x 8) d') (hx:x≤255) (hn:rb≠db∧rb≠sk) (hs:d.s.size≤140737488355328):
 Calls Tryz.prog 262 #[.pointer (some ⟨rb,0,none⟩),.int .u8 v'] w fun r w'=>r=.returned (.int .u8 x)∧DecIs w' db tb sk d'∧d'.Ok∧Only [db,sk] w w':=by
 have HW:=zh hW;have H:=zh h;have HK:=zh hk;have HG:=zh hg;have Hn:=zh hn;obtain ⟨-,-,-,c3,-⟩:=hW.cells;clear hW h hk hg hn
 go_enter Tryz.func262,Tryz.ntmps262
 go_wp2
 go_loopw [5,20] (fun a q wr=>∃ (m:Nat) (d1:Dec) (y:Nat),m≤8∧q=.int .i64 ((8-m:Nat):Int)∧a=.int .i64 y∧Hid (y=x/2^m)∧DecIs wr db tb sk d1∧Hid d1.Ok∧Hid (d1.gives (Ze x m) d')∧Hid (d1.s=d.s)∧Only [db,sk] w wr) (fun _ q _=>8-(intOf q).toNat)
 case atStart=>exact ⟨8,d,0,Nat.le_refl _,rfl,rfl,zh (by omega),H.out,HK,HG,zh rfl,Only.refl _ _⟩
 case round=>
  obtain ⟨m,d1,y,hm,rfl,rfl,hy,h1,hk1,hg1,hs1,ho1⟩:=hrel;have hWr:RcIs wr rb sb bb t (.pointer (some ⟨db,0,none⟩)) fr code over:=HW.out.only ho1 (by simp;exact Hn.out);obtain ⟨-,-,-,c3,-⟩:=hWr.cells;have H1:=zh h1;have O1:=zh ho1;have hyb:y≤255:=by have h9:=hy.out;have h8:=Nat.div_le_self x (2^m);omega
  by_cases h0:m=0
  ·subst h0;have hyx:y=x:=by have:=hy.out;simpa using this
   have hd:d'=d1:=hg1.out;have hw8:IntKind.u8.wrap (y:Int)=(x:Int):=by rw [IntKind.wrap_u8,hyx];omega
   have Hd:=zh hd;have Hyx:Hid ((y:Int)=(x:Int)):=zh (by omega);clear h1 ho1 hWr hyx hd hw8;go_wp2;go_ret;exact ⟨zq Hyx.out,by rw [Hd.out];exact H1.out,by rw [Hd.out];exact hk1.out,O1.out⟩
  ·obtain ⟨k,rfl⟩:∃ k,m=k+1:=⟨m-1,by omega⟩;obtain ⟨d2,g1,g2,g3⟩:=zKQ hg1.out;have G1:=zh g1;have G3:=zh g3;have S2:Hid (d2.s=d.s):=zh (by rw [g2,hs1.out]);obtain ⟨z,hz⟩:∃ z,z=x/2^k%2:=⟨_,rfl⟩;have hz1:z≤1:=by rw [hz];omega
   have hyz:2*y+z=x/2^k:=by
    have h2:=hy.out;rw [hz,h2,Nat.pow_succ,←Nat.div_div_eq_div_mul];omega
   have Hz:=zh hz;have Hyz:=zh hyz;have hq:((8-(k+1):Nat):Int)<8:=by omega
   have hq2:((8-(k+1):Nat):Int)+1=((8-k:Nat):Int):=by omega
   obtain ⟨q,hqe⟩:∃ q,q=8-(k+1):=⟨_,rfl⟩;rw [←hqe] at hq hq2 ⊢;have Hq2:=zh hq2;have hq3:q≤8:=by omega
   have hqk:=zh (show q+k=7 by omega);clear h1 ho1 hWr g1 g2 g3 hz hyz hqe hq2
   go_wp2_with fail
   refine ((DecAt.bare H1.out hk1.out).bypass (by rw [hs1.out];exact hs)).mono ?_;rintro r w1 ⟨rfl,h4,o4⟩;rw [G1.out] at h4 ⊢;rw [←Hz.out];have H4:=zh h4;have O4:=zh (O1.out.trans o4);clear h4 o4;dsimp only
   go_wp2_with fail
   refine (zFs _ w1).mono ?_;rintro r w2 ⟨rfl,rfl⟩;go_wp2;rw [Hq2.out];exact ⟨⟨k,d2,2*y+z,by omega,rfl,by simp,Hyz,H4.out.is,zh H4.out.ok,G3,S2,O4.out⟩,by have:=hqk.out;simp [intOf];omega⟩
def zNa (rb sb bb db tb sk:Nat) (t:ByteArray) (fr:Int) (xs:List Int) (ops:List Deed):Cod where
 C F acts w:=∃ (d:Dec) (j:Nat),F=[rb,db,tb,sk]∧RcIs w rb sb bb t (.pointer (some ⟨db,0,none⟩)) fr 0 false∧DecIs w db tb sk d∧d.Ok∧Read xs ops j d∧ops.drop j=zd acts∧(∀ a∈acts,a.fine)∧xs.length=256∧(∀ o∈ops,o.fits 256)∧d.s.size≤140737488355328
 wr:=false
 T:=53
 pv:=.pointer (some ⟨rb,0,none⟩)
 fE:=261
 fC:=260
 fR:=262
theorem RcIs.neD {w:World} {rb sb bb db tb sk:Nat} {t:ByteArray} {dv:Value} {fr code:Int} {over:Bool} {d:Dec} (h:RcIs w rb sb bb t dv fr code over) (k:DecIs w db tb sk d):rb≠db∧rb≠tb∧rb≠sk:=by
 unfold RcIs at h;exact ⟨ZC h k.cells (by decide),ZC h k.tab (by decide),ZC h k.sts (by decide)⟩
theorem zGf {xs:List Int} {ops:List Deed} {d:Dec} {j:Nat} {a:Ask} {r:List Ask} (hR:Read xs ops j d) (ht:ops.drop j=zd (a::r)) (hx:xs.length=256) (hf:∀ o∈ops,o.fits 256):
 ∃ d',d.gives a.deeds d'∧Read xs ops (j+a.deeds.length) d'∧ops.drop (j+a.deeds.length)=zd r∧d'.s=d.s:=by
 obtain ⟨d',h1,h2⟩:=hR.gives xs ops a.deeds (by rw [hx];exact hf) j d (zd r) ht;refine ⟨d',h1,h2,?_,Dec.gives_s _ _ _ h1⟩;rw [←List.drop_drop,ht];exact List.drop_left
theorem zLV (rb sb bb db tb sk:Nat) (t:ByteArray) (fr:Int) (xs:List Int) (ops:List Deed):(zNa rb sb bb db tb sk t fr xs ops).Ok where
 mE:=fun w=>by kernel_rfl
 mC:=fun w=>by kernel_rfl
 mR:=fun w=>by kernel_rfl
 eE:=fun args w=>ZZ Tryz.func261 (by kernel_rfl) (by kernel_rfl) args w
 eC:=fun args w=>ZZ Tryz.func260 (by kernel_rfl) (by kernel_rfl) args w
 eR:=fun args w=>ZZ Tryz.func262 (by kernel_rfl) (by kernel_rfl) args w
 elem:=by
  rintro F r w el inc v most v' ⟨d,j,rfl,hW,h,hk,hR,ht,hf,hx,ho,hs⟩ hv;obtain ⟨d',g1,g2,g3,g4⟩:=zGf hR ht hx ho;refine (zJJ hW h hk g1 (hf _ (by simp)) hs).mono ?_;rintro e w' ⟨rfl,h1,h2,h3⟩;have n:=hW.neD h;exact ⟨rfl,_,⟨d',_,rfl,hW.only h3 (by simp;exact ⟨n.1,n.2.2⟩),h1,h2,g2,g3,fun x hx=>hf x (by simp [hx]),hx,ho,by rw [g4];exact hs⟩,⟨h3.mono (fun i hi=>by simp at hi ⊢;rcases hi with h|h<;>simp [h]),fun i hi=> .inl hi⟩⟩
 raw:=by
  rintro F r w v v' ⟨d,j,rfl,hW,h,hk,hR,ht,hf,hx,ho,hs⟩ hv h0 h1;obtain ⟨d',g1,g2,g3,g4⟩:=zGf hR ht hx ho;have hv2:0≤v∧v≤255:=hf (.raw v) (by simp);obtain ⟨x,rfl⟩:=Int.eq_ofNat_of_zero_le hv2.1;have n:=hW.neD h;refine (zNe hW h hk g1 (by omega) ⟨n.1,n.2.2⟩ hs).mono ?_;rintro e w' ⟨rfl,h1,h2,h3⟩;exact ⟨rfl,_,⟨d',_,rfl,hW.only h3 (by simp;exact ⟨n.1,n.2.2⟩),h1,h2,g2,g3,fun x hx=>hf x (by simp [hx]),hx,ho,by rw [g4];exact hs⟩,⟨h3.mono (fun i hi=>by simp at hi ⊢;rcases hi with h|h<;>simp [h]),fun i hi=> .inl hi⟩⟩
 coefs:=by
  rintro F r w cs cat inc mb off cap X ⟨d,j,rfl,hW,h,hk,hR,ht,hf,hx,ho,hs⟩ hB hoff hc hm hn hv;obtain ⟨d',g1,g2,g3,g4⟩:=zGf hR ht hx ho;simp only [List.mem_cons,List.not_mem_nil,or_false,not_or] at hm;have n:=hW.neD h;have hst:d.st.length=256:=by
   have hl:(Enc.new xs).st.length=xs.length:=by simp [Enc.new,Zl]
   rw [hR.meets.st,((Enc.new xs).live_run (ops.take j) (Enc.live_new xs) (fun o ho2=>by rw [hl,hx];exact ho o (List.mem_of_mem_take ho2))).2.1,hl,hx]
  refine (zLi hW h hk hst g1 hB hoff (hf (.coefs cs cat inc) (by simp)) ⟨hm.2.1,hm.2.2.2,hm.2.2.1⟩ hs).mono ?_;rintro e w' ⟨rfl,h1,h2,h3,h4⟩;exact ⟨rfl,_,⟨d',_,rfl,hW.only h3 (by simp;exact ⟨n.1,n.2.2,Ne.symm hm.1⟩),h1,h2,g2,g3,fun x hx=>hf x (by simp [hx]),hx,ho,by rw [g4];exact hs⟩,⟨h3.mono (fun i hi=>by simp at hi ⊢;rcases hi with h|h|h<;>simp [h]),fun i hi=> .inl (List.mem_cons_of_mem _ hi)⟩,by simp;exact ⟨hm.1,hm.2.1,hm.2.2.1,hm.2.2.2⟩,h4⟩
 keep:=by
  rintro F r w w' X ⟨d,j,rfl,hW,h,hk,hR,ht,hf,hx,ho,hs⟩ hon hX;exact ⟨d,j,rfl,hW.only hon (hX rb (by simp)),h.only hon (hX db (by simp)) (hX tb (by simp)) (hX sk (by simp)),hk,hR,ht,hf,hx,ho,hs⟩
 low:=by
  rintro F r w ⟨d,j,rfl,hW,h,hk,hR,ht,hf,hx,ho,hs⟩ i hi;simp only [List.mem_cons,List.not_mem_nil,or_false] at hi;have l:=h.low
  rcases hi with rfl|rfl|rfl|rfl
  ·exact lt_of_block hW
  ·exact l.1
  ·exact l.2.1
  ·exact l.2.2
def Bits01 (l:List Int):Prop:=∀ b∈l,b=0∨b=1
theorem Bits01.app {a b:List Int} (h:Bits01 a) (k:Bits01 b):Bits01 (a++b):=fun x hx=>(List.mem_append.1 hx).elim (h x) (k x)
theorem zAn:Bits01 []:=fun x hx=>by cases hx
theorem zHT (x:Nat):Bits01 (ueN x):=zBw _ _
theorem zFP (x:Int):Bits01 (seN x):=zHT _
theorem zFO (x m:Nat):Bits01 (teN x m):=by
 unfold teN
 split
 ·exact zBw _ _
 ·exact zHT _
theorem zD4 (x m:Nat):Bits01 (zCu x m):=by
 unfold zCu
 split
 ·exact zAn
 ·exact zFO _ _
theorem zFR (o:Nat):∀ (vs:List Int) (i:Nat),Bits01 (zBs o i vs)
 |[],_=>zAn
 |v::vs,i=>by
  refine Bits01.app ?_ (zFR o vs (i+1));unfold zF2
  split
  ·exact zBw _ _
  ·split
   ·exact zFP _
   ·exact zFP _
theorem zFQ:∀ (ps:List Nat) (l:Nat),Bits01 (zA4 l ps)
 |[],_=>by unfold zA4;exact zAn
 |[_],_=>by unfold zA4;exact zAn
 |a::b::r,l=>by
  unfold zA4
  split
  ·exact zAn
  ·exact (zFO _ _).app (zFQ (b::r) _)
theorem zJR (cs:List Int):Bits01 (zEG cs):=by
 unfold zEG;refine (zD4 _ _).app ?_
 split
 ·exact zAn
 ·exact (zD4 _ _).app ((zFR _ _ _).app ((zD4 _ _).app (zFQ _ _)))
theorem Ask.bits_bit (a:Ask):Bits01 a.bits:=by
 cases a with
 |elem el inc v most=>
  show Bits01 (zAf el v most)
  unfold zAf
  split
  ·exact zFO _ _
  ·split
   ·exact zFP _
   ·exact zBw _ _
 |coefs cs cat inc=>exact zJR cs
 |raw v=>exact zBw _ _
theorem zEP:∀ l:List Ask,(∀ a∈l,a.fine)→Bits01 (ZJ l)
 |[],_=>zAn
 |a::l,h=>a.bits_bit.app (zEP l (fun x hx=>h x (by simp [hx])))
theorem zCa:∀ l:List Ask,(∀ a∈l,a.fine)→(ZJ l).length≤2500*l.length
 |[],_=>by simp [ZJ]
 |a::l,h=>by
  have h1:=a.bits_length (h a (by simp));have h2:=zCa l (fun x hx=>h x (by simp [hx]))
  show (a.bits++ZJ l).length≤_
  rw [List.length_append,List.length_cons];omega
end Go.Proofs.YtcppbdlmcbjmeaaGreatDoor
