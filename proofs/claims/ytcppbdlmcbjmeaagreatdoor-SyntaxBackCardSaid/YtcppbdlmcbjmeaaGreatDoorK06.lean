/- Lemmas that the law needs, part 6. -/
import Derived.Test.YtcppbdlmcbjmeaaGreatDoorK02
import Derived.Test.YtcppbdlmcbjmeaaGreatDoorK03
import Derived.Test.YtcppbdlmcbjmeaaGreatDoorK05
set_option maxHeartbeats 1600000
set_option maxRecDepth 100000
namespace Go.Proofs.YtcppbdlmcbjmeaaGreatDoor
open Go.RowKit
def Asc (w:World):Prop:=Lib.TabIs Tryz.prog w "strings.asciiSpace" .u8 Lib.asciiSpaceTab
theorem zHV:Tryz.prog.globalNamed "strings.asciiSpace"=some 0:=by kernel_rfl
theorem Asc.lt {w:World} (h:Asc w):0<w.heap.size:=by
 unfold Asc Lib.TabIs World.var? at h;rw [zHV] at h
 rcases Nat.lt_or_ge 0 w.heap.size with g|g
 ·exact g
 ·simp [Array.getElem?_eq_none g] at h
theorem Asc.only {S:List Nat} {w w':World} (ha:Asc w) (h:Only S w w') (hS:∀ k∈S,0<k):Asc w':=
 var?_below (B:=0+1) (h.below' (fun k hk=>hS k hk) ha.lt) zHV (by omega) ha
theorem zI5 (l:List UInt8) (b:UInt8):zDm (l++[b])=10*zDm l+((b.toNat:Int)-48):=by simp [zDm]
theorem zHD (l:List UInt8):∀ x:Int,0≤x→(∀ b∈l,48≤b.toNat∧b.toNat≤57)→
 0≤l.foldl (fun x b=>10*x+((b.toNat:Int)-48)) x∧l.foldl (fun x b=>10*x+((b.toNat:Int)-48)) x<(x+1)*10^l.length:=by
 induction l with
 |nil=>intro x hx _;simp;omega
 |cons b l ih=>
  intro x hx h;have h2:=h b (by simp);have h1:=ih (10*x+((b.toNat:Int)-48)) (by omega) (fun c hc=>h c (by simp [hc]));rw [List.foldl_cons,List.length_cons];refine ⟨h1.1,Int.lt_of_lt_of_le h1.2 ?_⟩;have h3:(10*x+((b.toNat:Int)-48)+1)≤(x+1)*10:=by omega
  have h4:(0:Int)≤10^l.length:=Int.le_of_lt (Int.pow_pos (by decide));have:=Int.mul_le_mul_of_nonneg_right h3 h4;rw [Int.pow_succ,Int.mul_comm ((10:Int)^l.length) 10,←Int.mul_assoc];exact this
theorem zHx (l:List UInt8) (h:zEy l=true) (i:Nat):0≤zDm (l.take i)∧zDm (l.take i)<1000000000:=by
 unfold zEy at h;simp only [Bool.and_eq_true,decide_eq_true_eq,List.all_eq_true] at h;have h1:=zHD (l.take i) 0 (by omega) (fun b hb=>h.2 b (List.mem_of_mem_take hb));have h2:(l.take i).length≤9:=by rw [List.length_take];omega
 have h3:(10:Int)^(l.take i).length≤10^9:=by
  have:10^(l.take i).length≤10^9:=Nat.pow_le_pow_right (by decide) h2
  exact_mod_cast this
 unfold zDm;omega
theorem zI4 (l:List UInt8) (i:Nat) (h:i<l.length):zDm (l.take (i+1))=10*zDm (l.take i)+((l[i].toNat:Int)-48):=by
 rw [List.take_succ_eq_append_getElem h,zI5]
theorem zJ0 (l:List UInt8) (h:zEy l=true) (i:Nat) (hi:i<l.length):48≤l[i].toNat∧l[i].toNat≤57:=by
 unfold zEy at h;simp only [Bool.and_eq_true,decide_eq_true_eq,List.all_eq_true] at h;exact h.2 _ (List.getElem_mem hi)
theorem zFE (s:ByteArray) (xs:List Int) (w:World) (hok:zLz s.data.toList xs=true) (ha:Asc w):
 Calls Tryz.prog 100 #[.string s] w fun e w'=>∃ sv,e=.returned sv∧w'.ownsRow w.heap.size 3 1 sv xs.length (xs.map (Value.int .i64))∧Below w.heap.size w w':=by
 unfold zLz at hok;simp only [Bool.and_eq_true,decide_eq_true_eq,List.all_eq_true] at hok;obtain ⟨⟨⟨⟨hw,hx⟩,has⟩,hsl⟩,hxl⟩:=hok;have hlen:s.size=s.data.toList.length:=by simp
 have hf:=Tryz.strings_Fields s w (by rw [hlen];omega) (fun j b hj=>by
  obtain ⟨hlt,rfl⟩:=List.getElem?_eq_some_iff.1 hj;exact has _ (List.getElem_mem hlt)) ha
 generalize Lib.fields s.data.toList=W at*;have hWx:W.length=xs.length:=by rw [←hx];simp
 have hWl:W.length<10000:=by omega
 have Hf:=zh hf;have Hw:=zh hw;have Hx:=zh hx;have HWx:=zh hWx;clear hf hw hx has hsl hxl hlen ha hWx;rw [←HWx.out]
 go_enter Tryz.func100,Tryz.ntmps100
 go_wp2_with fail
 refine (Hf.out).mono ?_;rintro e w1 ⟨rfl,hw1⟩;have hb1:w1.heap[w.heap.size]? =some (.cells (W.map fun l=>Value.string ⟨l.toArray⟩).toArray 9 (0,0)):=by rw [hw1];exact ZA _ _
 have hbl1:Below w.heap.size w w1:=by rw [hw1];exact (Below.refl _ _).alloc (Nat.le_refl _) _
 have Hb1:=zh hb1;have Hbl1:=zh hbl1;clear hw1 hb1 hbl1;go_wp2
 go_loopw [3,11] (fun o i wr=>∃ (k:Nat) (ys:List Int),k≤W.length∧i=.int .i64 k∧Hid (ys=(W.take k).map zDm)∧ys.length≤k∧wr.ownsRow w.heap.size 3 1 o ys.length (ys.map (Value.int .i64))∧
  wr.heap[w.heap.size]? =some (.cells (W.map fun l=>Value.string ⟨l.toArray⟩).toArray 9 (0,0))∧Below w.heap.size w wr) (fun _ i _=>W.length-(intOf i).toNat)
 case atStart=>exact ⟨0,[],Nat.zero_le _,rfl,zh (by simp),by simp,World.ownsRow_nil _ _ _ _,Hb1.out,Hbl1.out⟩
 case round=>
  obtain ⟨k,ys,hk,rfl,hys,hyl,hown,hblk,hbel⟩:=hrel;have hsz:=hbel.size
  by_cases hlt:k<W.length
  ·obtain ⟨l,hl⟩:∃ l,l=W[k]:=⟨_,rfl⟩;have hcell:wr.cell? ⟨w.heap.size,k,none⟩=some (.string ⟨l.toArray⟩):=by
    rw [zA hblk,hl];simp [hlt]
   have hokl:zEy l=true:=by rw [hl];exact Hw.out _ (List.getElem_mem hlt)
   have hll:l.length≤9:=by
    have:=hokl;unfold zEy at this;simp only [Bool.and_eq_true,decide_eq_true_eq] at this;exact this.1
   have Hl:=zh hl;have Hokl:=zh hokl;have Hblk:=zh hblk;obtain ⟨t,ht⟩:∃ t:ByteArray,t=⟨l.toArray⟩:=⟨_,rfl⟩;rw [←ht] at hcell;have hts:t.size=l.length:=by rw [ht];rfl
   have htb:∀ i (h:i<t.size) (h':i<l.length),(t[i]'h).toNat=(l[i]'h').toNat:=by
    subst ht;intro i h h'
    rfl
   have Hts:=zh hts;have Htb:=zh htb;have htl:t.size≤9:=by omega
   clear hl hokl hblk ht hts htb;go_wp2
   go_loop [6,17] (fun p q=>∃ i:Nat,i≤t.size∧q=.int .i64 i∧∃ y:Int,p=.int .i64 y∧Hid (y=zDm (l.take i))∧0≤y∧y<1000000000) (fun _ q=>t.size-(intOf q).toNat)
   case atStart=>exact ⟨0,Nat.zero_le _,rfl,0,rfl,zh (by simp [zDm]),by omega,by omega⟩
   case round=>
    obtain ⟨i,hi,rfl,y,rfl,hy,hy0,hy1⟩:=hrel
    by_cases hit:i<t.size
    ·have hil:i<l.length:=by rw [←Hts.out];exact hit
     have hbb:=zJ0 l Hokl.out i hil;have hbe:=Htb.out i hit hil;rw [←hbe] at hbb;obtain ⟨d,hd⟩:∃ d:Nat,d=(t[i]'hit).toNat:=⟨_,rfl⟩;have hd':((t[i]'hit).toNat:Int)=d:=by rw [hd]
     rw [←hd] at hbb;obtain ⟨hd0,hd1⟩:=hbb;have Hd:=zh hd;have Hbe:=zh hbe;clear hd hbe;have hnum:=zI4 l i hil;rw [←Hbe.out,←Hd.out,←hy.out] at hnum;have hrg:=zHx l Hokl.out (i+1);have Hn:=zh hnum;have Hr:=zh hrg;clear hnum hrg;go_wp2
     go_round
     case rel=>exact ⟨i+1,by omega,by go_num,_,rfl,zh Hn.out.symm,by have:=Hr.out;rw [Hn.out] at this;omega,by have:=Hr.out;rw [Hn.out] at this;omega⟩
     case measure=>simp [intOf]<;>omega
    ·obtain rfl:i=t.size:=by omega
     have hyl2:y=zDm l:=by rw [hy.out,Hts.out,List.take_length]
     have Hyl:=zh hyl2;clear hyl2
     go_wp2_with (at_builtin;refine zf rfl _ _ rfl zEQ w.heap.size _ _ _ _ hown rfl rfl (by simp) rfl (by omega) (by decide) (by omega) ?_)
     intro g cap w2 hp;have hbelow:Below w.heap.size wr w2:=Below.grown (Below.refl _ _) hp.2.1 hsz (fun k hk=>(hown.lt k hk).1);have hown2:=zS (ys:=(ys++[y]).map (Value.int .i64)) (m:=(ys++[y]).length) hp.1 (by simp) (by simp);have hblk2:w2.heap[w.heap.size]? =some (.cells (W.map fun l=>Value.string ⟨l.toArray⟩).toArray 9 (0,0)):=by
      rw [hp.2.1.block w.heap.size (lt_of_block Hblk.out) (fun e=>by
       obtain ⟨cur,hc⟩:=zD hown e.symm;rw [Hblk.out] at hc;simp at hc)]
      exact Hblk.out
     have H3:=zh hblk2;clear hblk2;have H1:=zh hown2;have H2:=zh (hbel.trans hbelow);clear hp hown hbelow hown2;go_wp2
     go_roundw
     case rel=>
      refine ⟨k+1,ys++[y],by omega,by go_num,zh ?_,by simp;omega,?_,H3.out,H2.out⟩
      ·rw [List.take_succ_eq_append_getElem hlt,List.map_append,←hys.out,←Hl.out,List.map_singleton,←Hyl.out]
      ·exact zS H1.out rfl rfl
     case measure=>simp [intOf]<;>omega
  ·obtain rfl:k=W.length:=by omega
   have e:ys=xs:=by rw [hys.out,List.take_length,Hx.out]
   rw [e] at hown;have H1:=zh hown;clear hown e hblk;go_wp2;go_ret;refine ⟨_,rfl,?_,hbel⟩;exact zS H1.out HWx.out.symm rfl
def zN (a b x:Value) (ws ds:List Int):Array Value:=([a,b,x]++ws.map (Value.int .i64)++ds.map (Value.int .i64)).toArray
theorem zGI (a b x:Value) (ws ds:List Int):(zN a b x ws ds).size=3+ws.length+ds.length:=by simp [zN];omega
theorem zFr (a b x:Value) (ws ds:List Int) (i:Nat) (h:i<ws.length):(zN a b x ws ds)[3+i]? =some (.int .i64 (ws.getD i 0)):=by
 have h1:3+i=i+1+1+1:=by omega
 rw [h1];have h2:(ws.map (Value.int .i64)++ds.map (Value.int .i64))[i]? =some (.int .i64 (ws.getD i 0)):=by
  rw [List.getElem?_append_left (by simpa using h)];simp [h,List.getD]
 simpa [zN] using h2
theorem zIt (a b x:Value) (ws ds:List Int) (i:Nat) (h:i<ds.length):(zN a b x ws ds)[3+ws.length+i]? =some (.int .i64 (ds.getD i 0)):=by
 have h1:3+ws.length+i=(ws.length+i)+1+1+1:=by omega
 rw [h1];have h2:(ws.map (Value.int .i64)++ds.map (Value.int .i64))[ws.length+i]? =some (.int .i64 (ds.getD i 0)):=by
  rw [List.getElem?_append_right (by simp)];simp [h,List.getD]
 simpa [zN] using h2
theorem zGK (a b x:Value) (ws ds es:List Int) (h1:ws.length=256) (h2:ds.length=es.length):
 ((zN a b x ws ds).toList.take 259++(es.map (Value.int .i64)++(zN a b x ws ds).toList.drop (259+(es.map (Value.int .i64)).length))).toArray=zN a b x ws es:=by
 have e:(zN a b x ws ds).toList=([a,b,x]++ws.map (Value.int .i64))++ds.map (Value.int .i64):=by simp [zN]
 have hl:([a,b,x]++ws.map (Value.int .i64)).length=259:=by simp [h1]
 rw [e,←hl,List.take_left,List.drop_append,List.drop_eq_nil_of_le (by omega),List.drop_eq_nil_of_le (by simp [h2])];simp [zN]
theorem zGJ (a b x:Value) (ws ds:List Int) (i:Nat) (v:Int) (h:i<ws.length):(zN a b x ws ds).setIfInBounds (3+i) (.int .i64 v)=zN a b x (ws.set i v) ds:=by
 unfold zN
 apply Array.ext'
 have h1:3+i=i+1+1+1:=by omega
 rw [h1];simp [h,List.map_set]
theorem zLd (tb pb:Nat) (x:Value) (w:World) (ht:w.heap[tb]? =some (.cells (zN (.int .u32 0) (.int .i32 1) x (List.replicate 256 0) (List.replicate 64 0)) 154 (0,0))) (hp:w.heap[pb]? =some (.cells #[.pointer (some ⟨tb,0,none⟩)] 140 (0,0))) (ha:Asc w) (hG:0<tb):
 Calls Tryz.prog 99 #[.pointer (some ⟨pb,0,none⟩)] w fun e w'=>e=.returned (.tuple #[])∧w'.heap[tb]? =some (.cells (zN (.int .u32 0) (.int .i32 1) x widthL downL) 154 (0,0))∧Only [tb] w w':=by
 have hne:tb≠pb:=by rintro rfl;rw [ht] at hp;simp [zN] at hp
 have Ht:=zh ht;have Hp:=zh hp;have Hasc0:=zh ha;clear ht hp
 go_enter Tryz.func99,Tryz.ntmps99
 go_wp2_with fail
 refine (zFE _ widthL _ (by kernel_rfl) ha).mono ?_;rintro e w1 ⟨sv,rfl,hown,hbel⟩;have hown':w1.ownsRow w.heap.size 3 1 sv 256 (widthL.map (Value.int .i64)):=hown;obtain ⟨g,cap,cur,rfl,hg,hgb,hcell⟩:=zAi hown' (by omega);have Hcell:=zh (show ∀ i,i<256→w1.cell? ⟨g,i,none⟩=some (.int .i64 (widthL.getD i 0)) from fun i hi=>by
  rw [hcell i hi,List.getElem?_map];have:i<widthL.length:=hi;simp [List.getElem?_eq_getElem this])
 have hlt:=lt_of_block Ht.out;have hgt:tb<g:=by omega
 have Ht1:=zh ((hbel.block tb hlt).trans Ht.out);have Hp1:=zh ((hbel.block pb (lt_of_block Hp.out)).trans Hp.out);have Ho:=zh ((Only.of_below hbel).mono (T:=[tb]) (by simp));have Hgl:=zh (lt_of_block hgb);clear hown hown' hgb hcell hbel;go_wp2
 go_loopw [7] (fun i wr=>∃ k:Nat,k≤256∧i=.int .i64 k∧wr.heap[tb]? =some (.cells (zN (.int .u32 0) (.int .i32 1) x (zA3 (fun i=>widthL.getD i 0) 256 k) (List.replicate 64 0)) 154 (0,0))∧
  (∀ b,b≠tb→wr.heap[b]? =w1.heap[b]?)∧Only [tb] w wr) (fun i _=>256-(intOf i).toNat)
 case atStart=>exact ⟨0,Nat.zero_le _,rfl,by rw [zC7];exact Ht1.out,fun _ _=>rfl,Ho.out⟩
 case round=>
  obtain ⟨k,hk,rfl,hblk,hoth,hon⟩:=hrel;have c2:wr.cell? ⟨pb,0,none⟩=some (.pointer (some ⟨tb,0,none⟩)):=cell_of_one ((hoth pb (fun e=>hne e.symm)).trans Hp1.out)
  by_cases hlk:k<256
  ·have c1:wr.cell? ⟨g,k,none⟩=some (.int .i64 (widthL.getD k 0)):=(World.cell?_of_block (hoth g (by omega))).trans (Hcell.out k hlk);have he:3+k/4*4+k%4=3+k:=by omega
   have c3:∃ v0,wr.cell? ⟨tb,3+k,none⟩=some v0:=⟨_,by rw [zA hblk];exact zFr _ _ _ _ _ _ (by rw [zA7];exact hlk)⟩;obtain ⟨v0,c3⟩:=c3;have z:=ZB hblk (3+k);obtain ⟨wk,hwk⟩:∃ wk,wk=widthL.getD k 0:=⟨_,rfl⟩;rw [←hwk] at c1;have Hwk:=zh hwk;clear hwk;have Hblk:=zh hblk;have Hoth:=zh hoth;have Hon:=zh hon;clear hblk hoth hon;go_wp2
   go_roundw
   case rel=>
    refine ⟨k+1,by omega,by go_num,?_,?_,Hon.out.setCell (.inl (by simp)) _⟩
    ·rw [zB _ Hblk.out,zGJ _ _ _ _ _ _ _ (by rw [zA7];exact hlk),zDy _ _ _ _ Hwk.out]
    ·intro b hb;rw [←Hoth.out b hb];exact Below.heap_setCell _ _ _ _ hb
   case measure=>simp [intOf]<;>omega
  ·obtain rfl:k=256:=by omega
   rw [zC8,show (List.range 256).map (fun i=>widthL.getD i 0)=widthL by decide] at hblk;have Hblk:=zh hblk;have Hon:=zh hon;have ha2:Asc wr.drew:=Asc.only Hasc0.out hon.drew (by simpa using hG);have hasc:=zh ha2;have hpl:pb<wr.drew.heap.size:=World.block_lt_of_cell? wr _ c2;have htl:tb<wr.drew.heap.size:=lt_of_block hblk;have hsz:w.heap.size≤wr.heap.size:=hon.size;clear hblk hon hoth ha2
   go_wp2_with fail
   go_region_held3 (fun w'=>w'.cell? ⟨pb,0,none⟩=some (.pointer (some ⟨tb,0,none⟩))) (first|go_keep|assumption)
    (first
      |(go_at_call 100
        refine (zFE _ downL _ (by kernel_rfl) hasc.out).mono ?_;rintro e w2 ⟨sv2,rfl,hown2,hbel2⟩;obtain ⟨g2,cap2,cur2,rfl,hg2,hgb2,hcell2⟩:=zAi (show w2.ownsRow _ _ 1 _ 64 (downL.map (Value.int .i64)) from hown2) (by omega);have c2b:=(hbel2.cell (p:=⟨pb,0,none⟩) hpl).trans c2;have Ht2:=(hbel2.block tb htl).trans Hblk.out;have Hcell2:∀ j v,(downL.map (Value.int .i64))[j]? =some v→w2.cell? ((⟨g2,0,none⟩:Addr).add j)=some v:=(hown2.cells (g:=g2) rfl);clear hown2 hcell2 hgb2 hasc)
      |(refine zEn rfl _ _ _ _ rfl 3 Tryz.underlying64 (by kernel_rfl) tb 259 64 64 ⟨g2,0,none⟩ 64 cap2 (by rfl) (by rfl) _ _ Ht2 (downL.map (Value.int .i64)) (by rfl) Hcell2 (by rw [zGI];simp;decide) (ints_oneCell _ _) ?_
        intro w3 ht3 ho3;have c3b:=ho3.cell c2b (by simp;omega)))
   rw [zGK _ _ _ _ _ _ (by decide) (by decide)] at ht3;have ho4:Only [tb] w w3:=(Hon.out.drew.trans' ((Only.of_below hbel2).mono (T:=[tb]) (by simp)) (by simp)).trans ho3;have H3:=zh ht3;have H4:=zh ho4;clear ht3 ho3 ho4 Ht2 Hcell2 c2b c3b hbel2;go_wp2;go_end0;exact ⟨rfl,H3.out,H4.out⟩
def zMM:Array Value:=zN (.int .u32 1) (.int .i32 0) (.int .u32 0) widthL downL
def TableAt (w:World) (tb:Nat):Prop:=w.heap[tb]? =some (.cells zMM 154 (0,0))
def tabNew:Array Value:=zN (.int .u32 0) (.int .i32 0) (.int .u32 0) (List.replicate 256 0) (List.replicate 64 0)
theorem zK2 (x:Value):((zN (.int .u32 0) (.int .i32 1) x widthL downL).setIfInBounds 0 (.int .u32 1)).setIfInBounds 1 (.int .i32 0)=zN (.int .u32 1) (.int .i32 0) x widthL downL:=by
 simp [zN]
theorem zMy (tb:Nat) (w:World) (ht:w.heap[tb]? =some (.cells tabNew 154 (0,0))) (ha:Asc w) (hG:0<tb):
 Calls Tryz.prog 60 #[.pointer (some ⟨tb,0,none⟩)] w fun e w'=>e=.returned (.pointer (some ⟨tb,0,none⟩))∧TableAt w' tb∧Only [tb] w w':=by
 have hlt:=lt_of_block ht;have hmf:∀ (fn:Fn) (first cap:Array Value) (w:World),(Instr.makeFunc fn first cap).run Tryz.prog w=.ok (.func fn first cap) w:=fun _ _ _ _=>rfl
 have hk1:=ZE (.cells #[.pointer (some ⟨tb,0,none⟩)] 140) ht;have hp1:=ZA w (.cells #[.pointer (some ⟨tb,0,none⟩)] 140);have hk2:=zB (i:=1) (.int .i32 1) hk1;rw [show tabNew.setIfInBounds 1 (.int .i32 1)=zN (.int .u32 0) (.int .i32 1) (.int .u32 0) (List.replicate 256 0) (List.replicate 64 0) by simp [tabNew,zN]] at hk2;have hp2:=zC (i:=1) (b:=tb) (.int .i32 1) hp1 (by omega);have ho2:Only [tb] w ((w.alloc (.cells #[.pointer (some ⟨tb,0,none⟩)] 140)).setCell ⟨tb,1,none⟩ (.int .i32 1)):=((Only.refl _ _).alloc _).setCell (.inl (by simp)) _;have hdo:=zJz tb 0 99 #[.pointer (some ⟨w.heap.size,0,none⟩)] (fun w=>ZZ Tryz.func99 (by kernel_rfl) (by kernel_rfl) _ w)
  (w.alloc (.cells #[.pointer (some ⟨tb,0,none⟩)] 140)) (fun w1=>w1.heap[tb]? =some (.cells (zN (.int .u32 0) (.int .i32 1) (.int .u32 0) widthL downL) 154 (0,0))∧w1.heap[w.heap.size]? =some (.cells #[.pointer (some ⟨tb,0,none⟩)] 140 (0,0))∧Only [tb] w w1)
  (by rw [zA hk1];simp [tabNew,zN]) (by rw [zA hk1];simp [tabNew,zN]) (ZB hk1 _)
  ((zLd tb w.heap.size (.int .u32 0) _ hk2 hp2 (ha.only ho2 (by simpa using hG)) hG).mono fun e w' ⟨he,h1,h2⟩=>⟨he,⟨by rw [zA h1];simp [zN],by rw [zA h1];simp [zN],ZB h1 _,ZB h1 _⟩,h1,h2.heap hp2 (by simp;omega),ho2.trans h2⟩)
 have Hdo:=zh hdo;clear hdo hk1 hp1 hk2 hp2 ho2 ht ha
 go_enter Tryz.func60,Tryz.ntmps60
 go_wp2_with fail
 refine Hdo.out.mono ?_;rintro e w1 ⟨rfl,w0,⟨h1,h2,h3⟩,rfl⟩;have Ho:=zh (((h3.drew).setCell (p:=⟨tb,0,none⟩) (.inl (by simp)) (.int .u32 1)).setCell (p:=⟨tb,1,none⟩) (.inl (by simp)) (.int .i32 0));have g1:=zB (i:=1) (.int .i32 0) (zB (i:=0) (.int .u32 1) (w:=w0.drew) h1);have g2:=zC (i:=1) (b:=tb) (.int .i32 0) (zC (i:=0) (b:=tb) (.int .u32 1) (w:=w0.drew) h2 (by omega)) (by omega);rw [zK2] at g1;have c1:=cell_of_one g2;have G1:=zh (show TableAt _ tb from g1);generalize ((w0.drew.setCell ⟨tb,0,none⟩ (.int .u32 1)).setCell ⟨tb,1,none⟩ (.int .i32 0))=wz at*;clear h1 h2 h3 g1 g2;go_wp2;go_ret;exact ⟨rfl,G1.out,Ho.out⟩
theorem zFp:widthL.length=256:=by decide
theorem zKf:downL.length=64:=by decide
theorem zNI {w:World} {tb:Nat} (h:TableAt w tb) (i:Nat) (hi:i<256):w.cell? ⟨tb,3+i,none⟩=some (.int .i64 (widthL.getD i 0)):=by
 rw [zA h];exact zFr _ _ _ _ _ _ (by rw [zFp];exact hi)
theorem zNv {w:World} {tb:Nat} (h:TableAt w tb) (i:Nat) (hi:i<64):w.cell? ⟨tb,259+i,none⟩=some (.int .i64 (downL.getD i 0)):=by
 rw [zA h];have:=zIt (.int .u32 1) (.int .i32 0) (.int .u32 0) widthL downL i (by rw [zKf];exact hi);rw [zFp] at this;exact this
theorem TableAt.only {S:List Nat} {w w':World} {tb:Nat} (h:TableAt w tb) (ho:Only S w w') (hs:tb∉S):TableAt w' tb:=ho.heap h hs
theorem zC0 (s:Int) (h0:0≤s) (h1:s<128):∃ k r:Nat,s=2*(k:Int)+r∧k<64∧r<2:=⟨(s/2).toNat,(s%2).toNat,by omega,by omega,by omega⟩
theorem zEb (tb:Nat) (s:Int) (m:Bool) (w:World) (ht:TableAt w tb) (h0:0≤s) (h1:s<128):
 Calls Tryz.prog 239 #[.pointer (some ⟨tb,0,none⟩),.int .i64 s,.bool m] w fun e w'=>e=.returned (.int .i64 (zo s m))∧w=w':=by
 obtain ⟨k,r,rfl,hk,hr⟩:=zC0 s h0 h1;have c1:=zNv ht k hk;have hd:=zDA k hk;obtain ⟨d,hd2⟩:∃ d,d=downL.getD k 0:=⟨_,rfl⟩;rw [←hd2] at c1 hd;obtain ⟨hd0,hd1⟩:=hd;have Hd:=zh hd2;have h1:Int.tdiv (2*(k:Int)+r) 2=k:=by rw [Int.tdiv_eq_ediv_of_nonneg (by omega)];omega
 have h2:Int.tmod (2*(k:Int)+r) 2=r:=by rw [Int.tmod_eq_emod_of_nonneg (by omega)];omega
 clear hd2;have hq:(2*(k:Int)+r)/2=k:=by omega
 have hq2:(2*(k:Int)+r)%2=r:=by omega
 have Hn:Hid (zo (2*(k:Int)+r) m=if m then (if (k:Int)<62 then 2*((k:Int)+1)+r else 2*(k:Int)+r) else if (k:Int)=0 then 1-(r:Int) else 2*d+r):=zh (by
  unfold zo;rw [hq,hq2,Int.toNat_natCast,←Hd.out]
  cases m
  ·by_cases hz:(k:Int)=0<;>simp [hz,downL]
  ·simp)
 clear hq hq2 ht
 go_enter Tryz.func239,Tryz.ntmps239
 cases m
 ·by_cases hz:k=0
  ·subst hz;go_wp2;go_ret;refine ⟨zq ?_,rfl⟩;rw [Hn.out];simp;omega
  ·go_wp2;go_ret;refine ⟨zq ?_,rfl⟩;rw [Hn.out];simp [hz]
 ·by_cases hz:k<62
  ·go_wp2;go_ret;refine ⟨zq ?_,rfl⟩;rw [Hn.out];simp;omega
  ·go_wp2;go_ret;refine ⟨zq ?_,rfl⟩;rw [Hn.out];simp;omega
theorem zK1:Tryz.zeroCells154=tabNew:=by kernel_rfl
theorem zFG (w:World) (ha:Asc w):
 Calls Tryz.prog 60 #[.pointer (some ⟨w.heap.size,0,none⟩)] (w.alloc (.cells Tryz.zeroCells154 154)) fun e w'=>
  e=.returned (.pointer (some ⟨w.heap.size,0,none⟩))∧TableAt w' w.heap.size∧Only [] w w':=by
 have hlt:=ha.lt;refine (zMy w.heap.size _ (by rw [ZA,zK1]) (ha.only ((Only.refl [] w).alloc _) (by simp)) hlt).mono ?_;rintro e w' ⟨h1,h2,h3⟩;exact ⟨h1,h2,((Only.refl [] w).alloc _).trans' h3 (by simp)⟩
theorem zBl (xs:List Int):(Zl xs).length=xs.length:=by simp [Zl]
theorem zJT (xs:List Int) (i:Nat) (h:i<xs.length):(Zl xs).getD i 0=if 0≤xs.getD i 0∧xs.getD i 0<128 then xs.getD i 0 else 0:=by
 simp only [Zl,List.getD,List.getElem?_map,List.getElem?_eq_getElem h,Option.map_some,Option.getD_some]
theorem zKX (xs:List Int):(List.range xs.length).map (fun i=>xs.getD i 0)=xs:=by
 apply List.ext_getElem?
 intro i
 by_cases h:i<xs.length
 ·simp [h,List.getD]
 ·simp [h]
theorem zHO (v:Value) (xs:List Int) (w:World) (hv:IntSlice w v xs) (hl:xs.length≤17592186044414):
 Calls Tryz.prog 61 #[v] w fun e w'=>∃ g,e=.returned (.slice (some ⟨g,0,none⟩) xs.length xs.length)∧w.heap.size≤g∧w'.heap[g]? =some (.cells (ints (Zl xs)) 3 (0,0))∧Only [] w w':=by
 obtain ⟨ao,cap,rfl,ha⟩:=hv
 go_enter Tryz.func61,Tryz.ntmps61
 go_wp2_with (at_make;refine zDC rfl _ _ rfl zEQ rfl xs.length rfl rfl rfl rfl (by omega) (by omega) ?_)
 intro w1 hb ho hsz;rw [zAL] at hb;have Hb:=zh hb;have Ho:=zh ho;clear hb ho hsz;go_wp2
 go_loopw [11] (fun i wr=>∃ k:Nat,k≤xs.length∧i=.int .i64 k∧wr.heap[w.heap.size]? =some (.cells (ints (zA3 (fun i=>(Zl xs).getD i 0) xs.length k)) 3 (0,0))∧Only [] w wr) (fun i _=>xs.length-(intOf i).toNat)
 case atStart=>exact ⟨0,Nat.zero_le _,rfl,by rw [zC7];exact Hb.out,Ho.out⟩
 case round=>
  obtain ⟨k,hk,rfl,hblk,hon⟩:=hrel
  by_cases hlt:k<xs.length
  ·rcases ha with ha|⟨ga,oa,rfl,ha⟩
   ·simp [ha] at hlt
   have c1:=hon.cell (ha k hlt) (by simp);have c2:wr.cell? ⟨w.heap.size,k,none⟩=some (.int .i64 ((zA3 (fun i=>(Zl xs).getD i 0) xs.length k).getD k 0)):=by
    rw [zA hblk];exact zBh _ _ (by rw [zA7];exact hlt)
   have z:=ZB hblk k;have hbe:=zJT xs k hlt;generalize hx:xs.getD k 0=x at*;have Hblk:=zh hblk;have Hon:=zh hon;have Hbe:=zh hbe;clear hblk hon hbe ha hx
   by_cases hin:0≤x∧x<128
   ·obtain ⟨hx0,hx1⟩:=hin;go_wp2
    go_roundw
    case rel=>
     refine ⟨k+1,by omega,by go_num,?_,Hon.out.setCell (.inr (by simp)) _⟩;rw [zB _ Hblk.out,zBu,zDy];rw [Hbe.out,if_pos ⟨hx0,hx1⟩]
    case measure=>simp [intOf]<;>omega
   ·have hfill:zA3 (fun i=>(Zl xs).getD i 0) xs.length k=zA3 (fun i=>(Zl xs).getD i 0) xs.length (k+1):=by
     unfold zA3
     apply List.map_congr_left
     intro c hc
     by_cases h1:c=k
     ·have h2:=Hbe.out;rw [if_neg hin] at h2;rw [h1,if_neg (by omega),if_pos (by omega)];exact h2.symm
     ·have h2:(c<k+1)↔(c<k):=by omega
      simp [h2]
    rw [hfill] at Hblk;have Hblk2:=zh Hblk.out;clear hfill;go_wp2<;>go_roundw
    case rel=>exact ⟨k+1,by omega,by go_num,Hblk2.out,Hon.out⟩
    case measure=>simp [intOf]<;>omega
    case rel=>exact ⟨k+1,by omega,by go_num,Hblk2.out,Hon.out⟩
    case measure=>simp [intOf]<;>omega
  ·obtain rfl:k=xs.length:=by omega
   have hb2:=hblk;rw [zC8,←zBl xs,zKX] at hb2;have Hb2:=zh hb2;clear hb2 hblk;go_wp2;go_ret;exact ⟨_,rfl,Nat.le_refl _,Hb2.out,hon⟩
end Go.Proofs.YtcppbdlmcbjmeaaGreatDoor
