/- Lemmas that the law needs, part 20. -/
import Derived.Test.YtcppbdlmcbjmeaaGreatDoorK19
import Derived.Test.YtcppbdlmcbjmeaaGreatDoorK02
import Derived.Test.YtcppbdlmcbjmeaaGreatDoorK18
set_option maxHeartbeats 3200000
set_option maxRecDepth 100000
namespace Go.Proofs.YtcppbdlmcbjmeaaGreatDoor
open Go.RowKit
def zCw (ps:List Int):List Ask:=ps.map Ask.raw
def PcmIs (w:World) (pb:Nat) (q:Nat→Int):Prop:=∃ cur:Array Value,w.heap[pb]? =some (.cells cur 5 (0,0))∧∀ i,i<384→cur[i]? =some (.int .u8 (q i))∧0≤q i∧q i≤255
theorem PcmIs.cell {w:World} {pb:Nat} {q:Nat→Int} (h:PcmIs w pb q) (i:Nat) (hi:i<384):w.cell? ⟨pb,i,none⟩=some (.int .u8 (q i)):=by
 obtain ⟨cur,h1,h2⟩:=h;rw [zA h1];exact (h2 i hi).1
theorem PcmIs.free {w:World} {pb:Nat} {q:Nat→Int} (h:PcmIs w pb q) (i:Nat):w.frozen? ⟨pb,i,none⟩=false:=by
 obtain ⟨cur,h1,h2⟩:=h;exact ZB h1 i
theorem PcmIs.only {w w':World} {pb:Nat} {q:Nat→Int} {S:List Nat} (h:PcmIs w pb q) (ho:Only S w w') (hp:pb∉S):PcmIs w' pb q:=by
 obtain ⟨cur,h1,h2⟩:=h;exact ⟨cur,ho.heap h1 hp,h2⟩
theorem PcmIs.range {w:World} {pb:Nat} {q:Nat→Int} (h:PcmIs w pb q) (i:Nat) (hi:i<384):0≤q i∧q i≤255:=by
 obtain ⟨cur,h1,h2⟩:=h;exact (h2 i hi).2
theorem PcmIs.set {w:World} {pb:Nat} {q:Nat→Int} (h:PcmIs w pb q) (i:Nat) (x:Int) (h0:0≤x∧x≤255):PcmIs (w.setCell ⟨pb,i,none⟩ (.int .u8 x)) pb (fun j=>if j=i then x else q j):=by
 obtain ⟨cur,h1,h2⟩:=h;refine ⟨_,zB _ h1,fun j hj=>?_⟩;have hsz:j<cur.size:=by
  apply Classical.byContradiction
  intro e;have:=(h2 j hj).1;rw [Array.getElem?_eq_none (by omega)] at this
  cases this
 dsimp only
 by_cases hji:j=i
 ·subst hji;rw [if_pos rfl];exact ⟨by rw [Array.getElem?_setIfInBounds_self_of_lt hsz],h0⟩
 ·rw [if_neg hji];refine ⟨?_,(h2 j hj).2⟩;rw [Array.getElem?_setIfInBounds_ne (Ne.symm hji)];exact (h2 j hj).1
theorem PcmIs.congr {w:World} {pb:Nat} {q p:Nat→Int} (h:PcmIs w pb q) (e:∀ i,i<384→q i=p i):PcmIs w pb p:=by
 obtain ⟨cur,h1,h2⟩:=h;exact ⟨cur,h1,fun i hi=>by rw [←e i hi];exact h2 i hi⟩
theorem PcmIs.lt {w:World} {pb:Nat} {q:Nat→Int} (h:PcmIs w pb q):pb<w.heap.size:=by
 obtain ⟨cur,h1,h2⟩:=h;exact lt_of_block h1
theorem zKt {P:Program} {w:World} {o:Oper} {a:Act} {K:Act→World→Prop} {Q:Exit→Act→World→Prop} (l c:Operand) {t e:TypeId}
 (hop:o.op=Op.makeSlice t l c) {z:Value} {bytes:Nat} (E:Elt P t e z 1 bytes) (hz1:z.cells=#[z]) {kl kc:IntKind} {L C:Int} (n:Nat) (hl:a.eval l=.int kl L) (hc:a.eval c=.int kc C)
 (hL:L=(n:Int)) (hC:C=(n:Int)) (hb:bytes*n≤281474976710656) (hn:n≤281474976710656)
 (h:K (a.put o.dst (.slice (some ⟨w.heap.size,0,none⟩) n n)) (w.alloc (.cells (zES n z) e))):o.wp P a w K Q:=by
 obtain ⟨i,hi,hz,hs,hbt⟩:=info_parts E.hi;subst hL hC;have hbytes:(i.bytes:Int)*(n:Int)≤281474976710656:=by
  have h2:((i.bytes*n:Nat):Int)≤281474976710656:=by rw [hbt];omega
  simpa using h2
 have hr:=run_make (P:=P) w t e i z E.ht hi hz kl kc n n (by omega) (Int.le_refl _) hbytes (by omega);have hcells:(madeCells z.cells ((n:Int).toNat*i.size))=zES n z:=by
  rw [hz1,hs]
  apply Array.ext'
  rw [toList_madeCells_one];simp [zES]
 rw [hcells] at hr;simp only [Int.toNat_natCast] at hr;unfold Oper.wp;simp [execOp,hop,hl,hc,hr,Result.andThen];exact h
theorem Scene.aside {c:Cod} {F0 F Y:List Nat} {w0 w w':World} {kb sb mb n:Nat} {S X:Nat→Value} {D:List Value} {r:List Ask} (h:Scene c F0 w0 w kb sb mb S X n D F r) (hc:c.Ok) (ho:Only Y w w') (hY:∀ i∈Y,i≠kb∧i≠sb∧i≠mb∧i∉F∧(S 23).ownBlock≠some i):Scene c F w' w' kb sb mb S X n D F r where
 k:=h.k.only ho (fun e=>(hY _ e).1 rfl)
 s:=h.s.only ho (fun e=>(hY _ e).2.1 rfl)
 m:=h.m.only ho (fun e=>(hY _ e).2.2.1 rfl)
 a:=zF h.a fun g hg=>by
  obtain ⟨cur,hc⟩:=zD h.a hg;exact ho.block g (lt_of_block hc) (fun e=>(hY _ e).2.2.2.2 hg)
 c:=hc.keep F r w w' Y h.c ho (fun i hi e=>(hY _ e).2.2.2.1 hi)
 nk:=h.nk
 ns:=h.ns
 nm:=h.nm
 na:=h.na
 o:=Only.refl _ _
 n:=fun _ hi=> .inl hi
 l:=⟨Nat.lt_of_lt_of_le (lt_of_block h.k) ho.size,Nat.lt_of_lt_of_le h.s.lt ho.size,Nat.lt_of_lt_of_le h.m.lt ho.size⟩
theorem PcmIs.ne {c:Cod} {F0 F:List Nat} {w0 w:World} {kb sb mb n pb:Nat} {S X:Nat→Value} {D:List Value} {r:List Ask} {q:Nat→Int} (h:Scene c F0 w0 w kb sb mb S X n D F r) (k:PcmIs w pb q):pb≠kb∧pb≠sb∧pb≠mb∧(S 23).ownBlock≠some pb:=by
 obtain ⟨cur,h1,-⟩:=k;refine ⟨?_,zCA h1 h.s (by decide),zCA h1 h.m (by decide),fun hg=>?_⟩
 ·rintro rfl;have h2:=h.k;unfold WkIn at h2;rw [h1] at h2;simp at h2
 ·obtain ⟨cur2,hc⟩:=zD h.a hg;rw [h1] at hc;simp at hc
theorem zME {n i:Nat} (z:Value) (h:i<n):(zES n z)[i]? =some z:=by simp [zES,h]
theorem zEt (ps:Nat→Int) {i:Nat} (hi:i<384):zCw ((List.range' i (384-i)).map ps)=.raw (ps i)::zCw ((List.range' (i+1) (384-(i+1))).map ps):=by
 rw [show 384-i=(384-(i+1))+1 by omega,List.range'_succ]
 rfl
theorem zNH {c:Cod} {F0 F:List Nat} {w0 w:World} {kb sb mb n:Nat} {S X:Nat→Value} {D:List Value} {r:List Ask} {ps:Nat→Int} (hc:c.Ok) (h:Scene c F0 w0 w kb sb mb S X n D F (zCw ((List.range 384).map ps)++r))
 (hX:(c.wr=false∧X 482=.slice none 0 0)∨∃ (pb cap:Nat) (q:Nat→Int),X 482=.slice (some ⟨pb,0,none⟩) 384 cap∧PcmIs w pb q∧pb∉F∧(c.wr=true→∀ i,i<384→q i=ps i))
 (hp:∀ i,i<384→0≤ps i∧ps i≤255):
 Calls Tryz.prog 70 #[.pointer (some ⟨kb,0,none⟩)] w fun e w'=>e=.returned (.tuple #[])∧∃ (F':List Nat) (pb cap:Nat),Scene c F' w' w' kb sb mb S (upd X 482 (.slice (some ⟨pb,0,none⟩) 384 cap)) n D F' r∧PcmIs w' pb ps∧pb∉F'∧
  Only (sb::mb::pb::F) w w'∧(∀ i∈F',i∈F∨w.heap.size≤i)∧(w.heap.size≤pb∨∃ cap',X 482=.slice (some ⟨pb,0,none⟩) 384 cap'):=by
 have k2:=h.k2;have H:=zh h;have HC:=zh hc;have Hp:=zh hp;have mR:=hc.mR;have eR:=hc.eR;have c482:w.cell? ⟨mb,482,none⟩=some (X 482):=h.m.cell 482 (by decide);have z482:=h.m.free 482;clear h hc hp
 rcases hX with ⟨hwr,hX⟩|⟨pb,cap,q,hX,hq,hpF,hwr⟩
 ·rw [hX] at c482;have HX:=zh hX;clear hX
  go_enter Tryz.func70,Tryz.ntmps70
  go_wp2;refine zH (by kernel_rfl) (fun w'=>w'.cell? ⟨kb,2,none⟩=some (.pointer (some ⟨mb,0,none⟩))) 7 ?_;have hS0:=k2;refine AnyL.tk 0 (h:=?_);refine AnyL.tk 1 (h:=?_);refine AnyL.tk 2 (h:=?_);refine AnyL.tk 3 (h:=?_);refine AnyL.on 4 (h:=fun K hK=>?_);rw [if_pos (by rfl)];refine zKt _ _ rfl zL8 rfl 384 rfl rfl rfl rfl (by decide) (by decide) ?_;have hg:=ZA w.drew (.cells (zES 384 (.int .u8 0)) 5);have ho:Only [] w (w.drew.alloc (.cells (zES 384 (.int .u8 0)) 5)):=(Only.refl [] w).drew.alloc _;have hS1:(fun w'=>w'.cell? ⟨kb,2,none⟩=some (.pointer (some ⟨mb,0,none⟩))) (w.drew.alloc (.cells (zES 384 (.int .u8 0)) 5)):=ho.cell k2 (by simp);have c482':=ho.cell c482 (by simp);have hs:=(H.out.drew HC.out).same HC.out ((Only.refl [] w.drew).alloc (.cells (zES 384 (.int .u8 0)) 5));have hdz:w.drew.heap.size=w.heap.size:=rfl;rw [hdz] at hg
  generalize (w.drew.alloc (.cells (zES 384 (.int .u8 0)) 5))=wa at*;have z482':=hs.m.free 482;have HS:=zh hs;have Hg:=zh hg;have Ho:=zh ho;clear hs hg ho;refine hK _ _ (fun _=>hS1) (fun hKq=>?_);clear hK K hKq
  try simp only [zpt]
  refine AnyL.on 5 (h:=fun K hK=>?_);go_simp;refine hK _ _ (fun _=>hS1) (fun hKq=>?_);clear hK K hKq
  try simp only [zpt]
  refine AnyL.on 6 (h:=fun K hK=>?_);go_simp;refine hK _ _ (fun _=>hS1) (fun hKq=>?_);clear hK K hKq
  try simp only [zpt]
  refine AnyL.on 7 (h:=fun K hK=>?_);go_simp;refine hK _ _ (fun h=>absurd rfl h) (fun hKq=>?_);clear hK K hKq
  try simp only [zpt]
  refine AnyL.dn (h:=?_);have hs1:=HS.out.setM HC.out 482 (.slice (some ⟨w.heap.size,0,none⟩) 384 384);have hq1:PcmIs (wa.setCell ⟨mb,482,none⟩ (.slice (some ⟨w.heap.size,0,none⟩) 384 384)) w.heap.size (fun _=>0):=by
   refine ⟨zES 384 (.int .u8 0),zC _ Hg.out (by have:=H.out.m.lt;omega),fun i hi=>⟨zME _ hi,Int.le_refl _,by show (0:Int)≤255;decide⟩⟩
  have o1:Only (sb::mb::w.heap.size::F) w (wa.setCell ⟨mb,482,none⟩ (.slice (some ⟨w.heap.size,0,none⟩) 384 384)):=(Ho.out.mono (T:=sb::mb::w.heap.size::F) (by simp)).setCell (.inl (by simp)) _;have hpf:w.heap.size∉F:=fun hm=>by have:=HC.out.low F _ _ H.out.c _ hm;omega
  generalize wa.setCell ⟨mb,482,none⟩ (.slice (some ⟨w.heap.size,0,none⟩) 384 384)=w1 at*;obtain ⟨pb,hpb⟩:∃ pb,pb=w.heap.size:=⟨_,rfl⟩;rw [←hpb] at hs1 hq1 o1 hpf ⊢;have hnew:Hid (w.heap.size≤pb∨∃ cap',X 482=.slice (some ⟨pb,0,none⟩) 384 cap'):=zh (.inl (by omega));obtain ⟨cap,hcap⟩:∃ cap,cap=384:=⟨_,rfl⟩;have hs1:Scene c F w1 w1 kb sb mb S (upd X 482 (.slice (some ⟨pb,0,none⟩) 384 cap)) n D F (zCw ((List.range 384).map ps)++r):=by rw [hcap];exact hs1.here
  obtain ⟨q,hqe⟩:∃ q:Nat→Int,q=fun _=>0:=⟨_,rfl⟩
  rw [←hqe] at hq1;have hwq:c.wr=true→∀ i,i<384→q i=ps i:=fun h=>by rw [hwr] at h;cases h
  have Hs1:=zh hs1;have Hq1:=zh hq1;have Ho1:=zh o1;have Hpf:=zh hpf;have Hnew:=zh hnew.out;have Hwq:=zh hwq;have k2:=hs1.k2;have c482:w1.cell? ⟨mb,482,none⟩=some (.slice (some ⟨pb,0,none⟩) 384 cap):=by rw [hs1.m.cell 482 (by decide),ZK]
  clear hs1 hq1 o1 hpf hnew hwq hpb hcap hqe hS1 c482' z482' z482 hdz HS Hg Ho hS0;go_wp2
  go_loopw [28] (fun iv wr=>∃ (i:Nat) (F1:List Nat) (q2:Nat→Int),i≤384∧iv=.int .i64 i∧Scene c F1 wr wr kb sb mb S (upd X 482 (.slice (some ⟨pb,0,none⟩) 384 cap)) n D F1 (zCw ((List.range' i (384-i)).map ps)++r)∧PcmIs wr pb q2∧Hid (pb∉F1)∧Hid (∀ j,j<i→q2 j=ps j)∧Hid (c.wr=true→∀ j,j<384→q2 j=ps j)∧Hid (Only (sb::mb::pb::F) w wr)∧Hid (∀ z∈F1,z∈F∨w.heap.size≤z)) (fun iv _=>384-(intOf iv).toNat)
  case atStart=>exact ⟨0,F,q,Nat.zero_le _,rfl,by rw [←List.range_eq_range'];exact Hs1.out,Hq1.out,Hpf,zh (fun j hj=>absurd hj (Nat.not_lt_zero j)),Hwq,Ho1,zh (fun z hz=> .inl hz)⟩
  case round=>
   clear c482 k2;obtain ⟨i,F1,q2,hi,rfl,hs,hq,Hpf,hlow,hwq2,honly,hF1⟩:=hrel
   by_cases hlt:i<384
   ·rw [zEt ps hlt] at hs;have k1:=hs.k1;have k2:=hs.k2;have c482:wr.cell? ⟨mb,482,none⟩=some (.slice (some ⟨pb,0,none⟩) 384 cap):=by rw [hs.m.cell 482 (by decide),ZK]
    have cq:=hq.cell i hlt;have hqr:=hq.range i hlt;have hne:=hq.ne hs;have hpsm:pb≠sb∧pb≠mb:=⟨hne.2.1,hne.2.2.1⟩;have hwq:Hid (c.wr=true→q2 i=ps i):=zh (fun h=>hwq2.out h i hlt);have Hs:=zh hs;have HQ:=zh hq;have Hne:=zh hne;clear hs hq hne
    go_wp2_with fail
    have hli:(i:Int)<384:=by omega
    refine zH (by kernel_rfl) (fun w'=>w'.cell? ⟨kb,1,none⟩=some (.iface c.T c.pv)∧w'.cell? ⟨kb,2,none⟩=some (.pointer (some ⟨mb,0,none⟩))∧w'.cell? ⟨mb,482,none⟩=some (.slice (some ⟨pb,0,none⟩) 384 cap)) 15 ?_;have hS0:(fun w'=>w'.cell? ⟨kb,1,none⟩=some (.iface c.T c.pv)∧w'.cell? ⟨kb,2,none⟩=some (.pointer (some ⟨mb,0,none⟩))∧w'.cell? ⟨mb,482,none⟩=some (.slice (some ⟨pb,0,none⟩) 384 cap)) wr.drew:=⟨k1,k2,c482⟩;refine AnyL.tk 0 (h:=?_);refine AnyL.tk 1 (h:=?_);refine AnyL.tk 2 (h:=?_);refine AnyL.tk 3 (h:=?_);refine AnyL.tk 4 (h:=?_);refine AnyL.tk 5 (h:=?_);refine AnyL.tk 6 (h:=?_);refine AnyL.tk 7 (h:=?_);refine AnyL.tk 8 (h:=?_);refine AnyL.tk 9 (h:=?_);refine AnyL.tk 10 (h:=?_);refine AnyL.tk 11 (h:=?_);refine AnyL.tk 12 (h:=?_);refine AnyL.on 13 (h:=fun K hK=>?_);go_simp
    refine ((Hs.out.drew HC.out).raw HC.out (q2 i) (fun h=>hwq.out h) hqr.1 hqr.2).mono ?_;rintro e wb ⟨rfl,F2,g1⟩;have hS2:(fun w'=>w'.cell? ⟨kb,1,none⟩=some (.iface c.T c.pv)∧w'.cell? ⟨kb,2,none⟩=some (.pointer (some ⟨mb,0,none⟩))∧w'.cell? ⟨mb,482,none⟩=some (.slice (some ⟨pb,0,none⟩) 384 cap)) wb:=⟨g1.k1,g1.k2,by rw [g1.m.cell 482 (by decide),ZK]⟩;have hpcm:PcmIs wb pb q2:=HQ.out.only g1.o (by simp;exact ⟨hpsm.1,hpsm.2,Hpf.out⟩);have cpb:=hpcm.cell i hlt;have zpb:=hpcm.free i;have hpF2:pb∉F2:=fun hm=>(g1.n pb hm).elim Hpf.out (fun h=>by have:=HQ.out.lt;have:wr.drew.heap.size=wr.heap.size:=rfl;omega)
    have G1:=zh g1;have HPC:=zh hpcm;have HpF2:=zh hpF2;clear g1 hpcm hpF2;refine hK _ _ (fun _=>hS2) (fun hKq=>?_);clear hK K hKq
    try simp only [zpt]
    refine AnyL.on 14 (h:=fun K hK=>?_);go_simp;refine hK _ _ (fun _=>hS2) (fun hKq=>?_);clear hK K hKq
    try simp only [zpt]
    refine AnyL.on 15 (h:=fun K hK=>?_);go_simp;refine hK _ _ (fun h=>absurd rfl h) (fun hKq=>?_);clear hK K hKq
    try simp only [zpt]
    refine AnyL.dn (h:=?_);have hq3:=HPC.out.set i (ps i) (Hp.out i hlt);have g2:=G1.out.aside HC.out ((Only.refl [pb] wb).setCell (p:=⟨pb,i,none⟩) (.inl (by simp)) (.int .u8 (ps i))) (fun z hz=>by
     have e:z=pb:=by simpa using hz
     subst e;exact ⟨Hne.out.1,Hne.out.2.1,Hne.out.2.2.1,HpF2.out,Hne.out.2.2.2⟩)
    have hon:Only (sb::mb::pb::F) w (wb.setCell ⟨pb,i,none⟩ (.int .u8 (ps i))):=(honly.out.trans' (G1.out.o) (fun z hz=>by
     simp only [List.mem_cons] at hz ⊢
     rcases hz with h|h|h
     ·exact .inl (.inl h)
     ·exact .inl (.inr (.inl h))
     ·rcases hF1.out z h with h|h
      ·exact .inl (.inr (.inr (.inr h)))
      ·exact .inr h)).setCell (.inl (by simp)) _
    have hF2:∀ z∈F2,z∈F∨w.heap.size≤z:=fun z hz=>(G1.out.n z hz).elim (hF1.out z) (fun h=> .inr (Nat.le_trans honly.out.size h))
    generalize wb.setCell ⟨pb,i,none⟩ (.int .u8 (ps i))=wc at*;have HQ3:=zh hq3;have G2:=zh g2;have HON:=zh hon;have HF2:=zh hF2;clear hq3 g2 hon hF2 hS2 hS0 cpb zpb k1 k2 c482 cq;go_wp2;refine ⟨⟨i+1,F2,_,by omega,by simp,G2.out,HQ3.out,HpF2,zh (fun j hj=>?_),zh (fun h j hj=>?_),HON,HF2⟩,by simp [intOf];omega⟩
    ·by_cases e:j=i
     ·rw [if_pos e,e]
     ·rw [if_neg e];exact hlow.out j (by omega)
    ·by_cases e:j=i
     ·rw [if_pos e,e]
     ·rw [if_neg e];exact hwq2.out h j hj
   ·obtain rfl:i=384:=by omega
    have Hs:=zh hs;have HQ:=zh (hq.congr hlow.out);clear hs hq;go_wp2;go_end0;exact ⟨rfl,F1,pb,cap,Hs.out,HQ.out,Hpf.out,honly.out,hF1.out,Hnew.out⟩
 ·have hXu:upd X 482 (.slice (some ⟨pb,0,none⟩) 384 cap)=X:=by
   funext j
   unfold upd
   split
   ·rename_i e;rw [e,hX]
   ·rfl
  have Hs1:Hid (Scene c F w w kb sb mb S (upd X 482 (.slice (some ⟨pb,0,none⟩) 384 cap)) n D F (zCw ((List.range 384).map ps)++r)):=zh (by rw [hXu];exact H.out.here);have Hq1:=zh hq;have Ho1:Hid (Only (sb::mb::pb::F) w w):=zh (Only.refl _ _);have Hpf:=zh hpF;have Hnew:Hid (w.heap.size≤pb∨∃ cap',X 482=.slice (some ⟨pb,0,none⟩) 384 cap'):=zh (.inr ⟨cap,hX⟩);have Hwq:=zh hwr;rw [hX] at c482;clear hXu hq hpF hwr hX z482
  go_enter Tryz.func70,Tryz.ntmps70
  go_wp2
  go_loopw [28] (fun iv wr=>∃ (i:Nat) (F1:List Nat) (q2:Nat→Int),i≤384∧iv=.int .i64 i∧Scene c F1 wr wr kb sb mb S (upd X 482 (.slice (some ⟨pb,0,none⟩) 384 cap)) n D F1 (zCw ((List.range' i (384-i)).map ps)++r)∧PcmIs wr pb q2∧Hid (pb∉F1)∧Hid (∀ j,j<i→q2 j=ps j)∧Hid (c.wr=true→∀ j,j<384→q2 j=ps j)∧Hid (Only (sb::mb::pb::F) w wr)∧Hid (∀ z∈F1,z∈F∨w.heap.size≤z)) (fun iv _=>384-(intOf iv).toNat)
  case atStart=>exact ⟨0,F,q,Nat.zero_le _,rfl,by rw [←List.range_eq_range'];exact Hs1.out,Hq1.out,Hpf,zh (fun j hj=>absurd hj (Nat.not_lt_zero j)),Hwq,Ho1,zh (fun z hz=> .inl hz)⟩
  case round=>
   clear c482 k2;obtain ⟨i,F1,q2,hi,rfl,hs,hq,Hpf,hlow,hwq2,honly,hF1⟩:=hrel
   by_cases hlt:i<384
   ·rw [zEt ps hlt] at hs;have k1:=hs.k1;have k2:=hs.k2;have c482:wr.cell? ⟨mb,482,none⟩=some (.slice (some ⟨pb,0,none⟩) 384 cap):=by rw [hs.m.cell 482 (by decide),ZK]
    have cq:=hq.cell i hlt;have hqr:=hq.range i hlt;have hne:=hq.ne hs;have hpsm:pb≠sb∧pb≠mb:=⟨hne.2.1,hne.2.2.1⟩;have hwq:Hid (c.wr=true→q2 i=ps i):=zh (fun h=>hwq2.out h i hlt);have Hs:=zh hs;have HQ:=zh hq;have Hne:=zh hne;clear hs hq hne
    go_wp2_with fail
    have hli:(i:Int)<384:=by omega
    refine zH (by kernel_rfl) (fun w'=>w'.cell? ⟨kb,1,none⟩=some (.iface c.T c.pv)∧w'.cell? ⟨kb,2,none⟩=some (.pointer (some ⟨mb,0,none⟩))∧w'.cell? ⟨mb,482,none⟩=some (.slice (some ⟨pb,0,none⟩) 384 cap)) 15 ?_;have hS0:(fun w'=>w'.cell? ⟨kb,1,none⟩=some (.iface c.T c.pv)∧w'.cell? ⟨kb,2,none⟩=some (.pointer (some ⟨mb,0,none⟩))∧w'.cell? ⟨mb,482,none⟩=some (.slice (some ⟨pb,0,none⟩) 384 cap)) wr.drew:=⟨k1,k2,c482⟩;refine AnyL.tk 0 (h:=?_);refine AnyL.tk 1 (h:=?_);refine AnyL.tk 2 (h:=?_);refine AnyL.tk 3 (h:=?_);refine AnyL.tk 4 (h:=?_);refine AnyL.tk 5 (h:=?_);refine AnyL.tk 6 (h:=?_);refine AnyL.tk 7 (h:=?_);refine AnyL.tk 8 (h:=?_);refine AnyL.tk 9 (h:=?_);refine AnyL.tk 10 (h:=?_);refine AnyL.tk 11 (h:=?_);refine AnyL.tk 12 (h:=?_);refine AnyL.on 13 (h:=fun K hK=>?_);go_simp
    refine ((Hs.out.drew HC.out).raw HC.out (q2 i) (fun h=>hwq.out h) hqr.1 hqr.2).mono ?_;rintro e wb ⟨rfl,F2,g1⟩;have hS2:(fun w'=>w'.cell? ⟨kb,1,none⟩=some (.iface c.T c.pv)∧w'.cell? ⟨kb,2,none⟩=some (.pointer (some ⟨mb,0,none⟩))∧w'.cell? ⟨mb,482,none⟩=some (.slice (some ⟨pb,0,none⟩) 384 cap)) wb:=⟨g1.k1,g1.k2,by rw [g1.m.cell 482 (by decide),ZK]⟩;have hpcm:PcmIs wb pb q2:=HQ.out.only g1.o (by simp;exact ⟨hpsm.1,hpsm.2,Hpf.out⟩);have cpb:=hpcm.cell i hlt;have zpb:=hpcm.free i;have hpF2:pb∉F2:=fun hm=>(g1.n pb hm).elim Hpf.out (fun h=>by have:=HQ.out.lt;have:wr.drew.heap.size=wr.heap.size:=rfl;omega)
    have G1:=zh g1;have HPC:=zh hpcm;have HpF2:=zh hpF2;clear g1 hpcm hpF2;refine hK _ _ (fun _=>hS2) (fun hKq=>?_);clear hK K hKq
    try simp only [zpt]
    refine AnyL.on 14 (h:=fun K hK=>?_);go_simp;refine hK _ _ (fun _=>hS2) (fun hKq=>?_);clear hK K hKq
    try simp only [zpt]
    refine AnyL.on 15 (h:=fun K hK=>?_);go_simp;refine hK _ _ (fun h=>absurd rfl h) (fun hKq=>?_);clear hK K hKq
    try simp only [zpt]
    refine AnyL.dn (h:=?_);have hq3:=HPC.out.set i (ps i) (Hp.out i hlt);have g2:=G1.out.aside HC.out ((Only.refl [pb] wb).setCell (p:=⟨pb,i,none⟩) (.inl (by simp)) (.int .u8 (ps i))) (fun z hz=>by
     have e:z=pb:=by simpa using hz
     subst e;exact ⟨Hne.out.1,Hne.out.2.1,Hne.out.2.2.1,HpF2.out,Hne.out.2.2.2⟩)
    have hon:Only (sb::mb::pb::F) w (wb.setCell ⟨pb,i,none⟩ (.int .u8 (ps i))):=(honly.out.trans' (G1.out.o) (fun z hz=>by
     simp only [List.mem_cons] at hz ⊢
     rcases hz with h|h|h
     ·exact .inl (.inl h)
     ·exact .inl (.inr (.inl h))
     ·rcases hF1.out z h with h|h
      ·exact .inl (.inr (.inr (.inr h)))
      ·exact .inr h)).setCell (.inl (by simp)) _
    have hF2:∀ z∈F2,z∈F∨w.heap.size≤z:=fun z hz=>(G1.out.n z hz).elim (hF1.out z) (fun h=> .inr (Nat.le_trans honly.out.size h))
    generalize wb.setCell ⟨pb,i,none⟩ (.int .u8 (ps i))=wc at*;have HQ3:=zh hq3;have G2:=zh g2;have HON:=zh hon;have HF2:=zh hF2;clear hq3 g2 hon hF2 hS2 hS0 cpb zpb k1 k2 c482 cq;go_wp2;refine ⟨⟨i+1,F2,_,by omega,by simp,G2.out,HQ3.out,HpF2,zh (fun j hj=>?_),zh (fun h j hj=>?_),HON,HF2⟩,by simp [intOf];omega⟩
    ·by_cases e:j=i
     ·rw [if_pos e,e]
     ·rw [if_neg e];exact hlow.out j (by omega)
    ·by_cases e:j=i
     ·rw [if_pos e,e]
     ·rw [if_neg e];exact hwq2.out h j hj
   ·obtain rfl:i=384:=by omega
    have Hs:=zh hs;have HQ:=zh (hq.congr hlow.out);clear hs hq;go_wp2;go_end0;exact ⟨rfl,F1,pb,cap,Hs.out,HQ.out,Hpf.out,honly.out,hF1.out,Hnew.out⟩
structure MbGiven (wr:Bool) (X:Nat→Value) (x y:Nat→Int):Prop where
 cell:∀ j,j<482→X j=.int .i64 (x j)
 told:wr=true→∀ j,j<482→x j=y j
 none:wr=false→∀ j,j<482→x j=0
theorem MbGiven.same {wr:Bool} {X:Nat→Value} {x y:Nat→Int} (h:MbGiven wr X x y) {j:Nat} (hj:j<482) (h0:y j=0):X j=.int .i64 (y j):=by
 rw [h.cell j hj]
 cases hw:wr with
 |true=>rw [h.told hw j hj]
 |false=>rw [h.none hw j hj,h0]
theorem MbGiven.range {wr:Bool} {X:Nat→Value} {x y:Nat→Int} (h:MbGiven wr X x y) {j:Nat} {a b:Int} (hj:j<482) (hy:a≤y j∧y j≤b) (h0:a≤0∧0≤b):a≤x j∧x j≤b:=by
 cases hw:wr with
 |true=>rw [h.told hw j hj];exact hy
 |false=>rw [h.none hw j hj];exact h0
theorem Scene.trans {c:Cod} {F0 F F':List Nat} {w0 w w':World} {kb sb mb n n':Nat} {S X S' X':Nat→Value} {D D':List Value} {r r':List Ask} (h:Scene c F0 w0 w kb sb mb S X n D F r) (k:Scene c F w w' kb sb mb S' X' n' D' F' r'):Scene c F0 w0 w' kb sb mb S' X' n' D' F' r' where
 k:=k.k
 s:=k.s
 m:=k.m
 a:=k.a
 c:=k.c
 nk:=k.nk
 ns:=k.ns
 nm:=k.nm
 na:=k.na
 o:=h.o.trans' k.o (fun i hi=>by
  simp only [List.mem_cons] at hi ⊢
  rcases hi with h1|h1|h1
  ·exact .inl (.inl h1)
  ·exact .inl (.inr (.inl h1))
  ·rcases h.n i h1 with h2|h2
   ·exact .inl (.inr (.inr h2))
   ·exact .inr h2)
 n:=fun i hi=>(k.n i hi).elim (h.n i) (fun h2=> .inr (Nat.le_trans h.o.size h2))
 l:=h.l
theorem zE8 {X:Nat→Value} {md:Nat→Int} {k j:Nat} (h:¬ (2≤j∧j<2+k)):zA5 X md k j=X j:=by unfold zA5;rw [if_neg h]
theorem zK9 {kind:Int} {L G j:Nat} (h:zAa kind L G j):j<482:=by unfold zAa at h;omega
end Go.Proofs.YtcppbdlmcbjmeaaGreatDoor
