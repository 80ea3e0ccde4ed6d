/- Lemmas that the law needs, part 33. -/
import Derived.Test.YtcppbdlmcbjmeaaGreatDoorK04
import Derived.Test.YtcppbdlmcbjmeaaGreatDoorK31
import Derived.Test.YtcppbdlmcbjmeaaGreatDoorK32
import Derived.Lib.ConvBytes
set_option maxHeartbeats 1600000
set_option maxRecDepth 100000
namespace Go.Proofs.YtcppbdlmcbjmeaaGreatDoor
open Go.RowKit
theorem zEH (el inc:Int) (e:Enc) (n:Nat) (c:Int) (cs:List Int):
 Enc.letters el inc e n (c::cs)=if (e.letter el inc n c).1 then Enc.letters el inc (e.letter el inc n c).2.1 (e.letter el inc n c).2.2 cs else (false,(e.letter el inc n c).2.1):=rfl
theorem zF4 (el inc:Int) (e:Enc) (n:Nat) (c:Int) (cs:List Int) (h:97≤c):
 Enc.letters el inc e n (c::cs)=if e.may (c-97) then Enc.letters el inc (e.bypass (c-97)) n cs else (false,e.bypass (c-97)):=by
 rw [zEH];unfold Enc.letter;rw [if_pos h]
theorem zE4 (el inc:Int) (e:Enc) (n:Nat) (c:Int) (cs:List Int) (h:¬ 97≤c):
 Enc.letters el inc e n (c::cs)=if e.canBin (zz el inc n) (c-48) then Enc.letters el inc (e.bin (zz el inc n) (c-48)) (n+1) cs else (false,e.bin (zz el inc n) (c-48)):=by
 rw [zEH];unfold Enc.letter;rw [if_neg h]
theorem zFc (cs:List Int) (k:Nat) (hk:k<cs.length) (h:0≤cs.getD k 0) (h2:cs.getD k 0<256):(((strOfNums cs).data.toList.getD k 0).toNat:Int)=cs.getD k 0:=by
 rw [strOfNums_data];simp only [List.getD,List.getElem?_map,List.getElem?_eq_getElem hk,Option.map_some,Option.getD_some] at*;rw [UInt8.toNat_ofNat'];omega
def AtLetter (el inc:Int) (cs:List Int) (e e':Enc) (k n:Nat):Prop:=Enc.letters el inc e' n (cs.drop k)=Enc.letters el inc e 0 cs∧e'.cost≤e.cost+8*k∧n≤k
theorem AtLetter.start (el inc:Int) (cs:List Int) (e:Enc):AtLetter el inc cs e e 0 0:=⟨rfl,by omega,Nat.le_refl _⟩
theorem AtLetter.ends {el inc:Int} {cs:List Int} {e e':Enc} {k n:Nat} (h:AtLetter el inc cs e e' k n) (hk:cs.length≤k):Enc.letters el inc e 0 cs=(true,e'):=by
 rw [←h.1,List.drop_of_length_le hk]
 rfl
theorem AtLetter.by_yes {el inc:Int} {cs:List Int} {e e':Enc} {k n:Nat} (h:AtLetter el inc cs e e' k n) (hg:e'.Good) (hk:k<cs.length) (hc:97≤cs.getD k 0) (hm:e'.may (cs.getD k 0-97)=true):AtLetter el inc cs e (e'.bypass (cs.getD k 0-97)) (k+1) n:=by
 have h1:=h.1;have hd:cs.drop k=cs.getD k 0::cs.drop (k+1):=by rw [List.drop_eq_getElem_cons hk];simp [List.getD,List.getElem?_eq_getElem hk]
 rw [hd,zF4 _ _ _ _ _ _ hc,hm] at h1;have:=(e'.good_bypass (cs.getD k 0-97) hg).2;have:=h.2.1;have:=h.2.2;exact ⟨by simpa using h1,by omega,by omega⟩
theorem AtLetter.by_no {el inc:Int} {cs:List Int} {e e':Enc} {k n:Nat} (h:AtLetter el inc cs e e' k n) (hk:k<cs.length) (hc:97≤cs.getD k 0) (hm:e'.may (cs.getD k 0-97)=false):Enc.letters el inc e 0 cs=(false,e'.bypass (cs.getD k 0-97)):=by
 have h1:=h.1;have hd:cs.drop k=cs.getD k 0::cs.drop (k+1):=by rw [List.drop_eq_getElem_cons hk];simp [List.getD,List.getElem?_eq_getElem hk]
 rw [hd,zF4 _ _ _ _ _ _ hc,hm] at h1;exact h1.symm
theorem AtLetter.bin_yes {el inc:Int} {cs:List Int} {e e':Enc} {k n:Nat} (h:AtLetter el inc cs e e' k n) (hg:e'.Good) (hk:k<cs.length) (hc:¬ 97≤cs.getD k 0) (hm:e'.canBin (zz el inc n) (cs.getD k 0-48)=true):AtLetter el inc cs e (e'.bin (zz el inc n) (cs.getD k 0-48)) (k+1) (n+1):=by
 have h1:=h.1;have hd:cs.drop k=cs.getD k 0::cs.drop (k+1):=by rw [List.drop_eq_getElem_cons hk];simp [List.getD,List.getElem?_eq_getElem hk]
 rw [hd,zE4 _ _ _ _ _ _ hc,hm] at h1;have:=(e'.good_bin (zz el inc n) (cs.getD k 0-48) hg).2;have:=h.2.1;have:=h.2.2;exact ⟨by simpa using h1,by omega,by omega⟩
theorem AtLetter.bin_no {el inc:Int} {cs:List Int} {e e':Enc} {k n:Nat} (h:AtLetter el inc cs e e' k n) (hk:k<cs.length) (hc:¬ 97≤cs.getD k 0) (hm:e'.canBin (zz el inc n) (cs.getD k 0-48)=false):Enc.letters el inc e 0 cs=(false,e'.bin (zz el inc n) (cs.getD k 0-48)):=by
 have h1:=h.1;have hd:cs.drop k=cs.getD k 0::cs.drop (k+1):=by rw [List.drop_eq_getElem_cons hk];simp [List.getD,List.getElem?_eq_getElem hk]
 rw [hd,zE4 _ _ _ _ _ _ hc,hm] at h1;exact h1.symm
theorem EncGo.of_only {w w':World} {b sb:Nat} {ov:Value} (h:Only [] w w'):EncGo w w' b sb ov ov:=⟨h.mono (by simp),fun _ hg=> .inl hg⟩
theorem zCZ (el inc:Int) (n:Nat) (w:World) (h0:0≤el) (h1:el≤19) (h2:0≤inc) (h3:inc≤7) (hn:n≤1000000):
 Calls Tryz.prog 230 #[.int .i64 el,.int .i64 inc,.int .i64 n] w fun r w'=>r=.returned (.int .i64 (zz el inc n))∧w=w':=by
 go_enter Tryz.func230,Tryz.ntmps230
 go_wp2;go_ret;exact ⟨rfl,rfl⟩
theorem zIg {w0 w:World} {b tb sb:Nat} {ov:Value} {e:Enc} (h:EncAt w0 w b tb sb ov e) (hn:e.cost<600000000) (el inc v most:Int):
 Calls Tryz.prog 219 #[.pointer (some ⟨b,0,none⟩),.int .i64 el,.int .i64 inc,.int .i64 v,.int .i64 most] w fun r w'=>r=.returned (.int .i64 (e.elem el inc v most).1)∧∃ ov',EncAt w0 w' b tb sb ov' (e.elem el inc v most).2∧EncGo w w' b sb ov ov':=by
 have H:=zh h;clear h
 by_cases hc:zAx el v most=0∧0≤inc∧inc≤7
 ·obtain ⟨hc1,hc2,hc3⟩:=hc;obtain ⟨el0,el1,-⟩:=zCB el v most hc1;have hel:e.elem el inc v most=(zJw (Enc.letters el inc e 0 (zCs el v most)).1,(Enc.letters el inc e 0 (zCs el v most)).2):=by unfold Enc.elem;rw [if_pos ⟨hc1,hc2,hc3⟩]
  rw [hel];have hlet:=zCY el v most;have hlen:=zEO el v most;have Hb:=zh (zIf el v most w);rw [hc1] at Hb;obtain ⟨cs,hcs⟩:∃ cs,cs=zCs el v most:=⟨_,rfl⟩;rw [←hcs] at hlet hlen Hb ⊢;have Hlet:=zh hlet;obtain ⟨s,hs⟩:∃ s,s=strOfNums cs:=⟨_,rfl⟩;rw [←hs] at Hb;have hsz:s.size=cs.length:=by rw [hs,strOfNums_size]
  have Hs:=zh hs;have Hsz:=zh hsz;have hss:s.size≤100:=by omega
  clear hlet hel hc1 hcs hs hsz hlen;have kc:=fun (w:World)=>Lib.run_convert_string_bytes (P:=Tryz.prog) w 9 49 5 s Tryz.underlying9 Tryz.underlying49 Tryz.underlying5
  go_enter Tryz.func219,Tryz.ntmps219
  go_wp2_with fail
  refine (Hb.out).mono ?_;rintro r w1 ⟨rfl,h1⟩;have H1:=zh h1;clear h1;go_wp2;have ho2:Only [] w (Lib.bytesWorld w1 5 s):=H1.out.trans ⟨rfl,rfl,rfl,by rw [Lib.bytesWorld_size];omega,fun k hk _=>Lib.bytesWorld_at_old w1 _ s k hk⟩;have hcell2:∀ k,k<s.size→(Lib.bytesWorld w1 5 s).cell? ⟨w1.heap.size,k,none⟩=some (.int .u8 (cs.getD k 0)):=by
   intro k hk;rw [Lib.bytesWorld_cell w1 _ s k hk,Hs.out];have hlk:zc (cs.getD k 0):=by
    have hk2:k<cs.length:=by have:=Hsz.out;omega
    simp only [List.getD,List.getElem?_eq_getElem hk2,Option.getD_some];exact Hlet.out _ (List.getElem_mem hk2)
   unfold zc at hlk;rw [zFc cs k (by have:=Hsz.out;omega) (by omega) (by omega)]
  have hgsz:(Lib.bytesWorld w1 5 s).heap.size=w1.heap.size+1:=Lib.bytesWorld_size w1 _ s;obtain ⟨g,hg⟩:∃ g,g=w1.heap.size:=⟨_,rfl⟩;have hgw:w.heap.size≤g:=by rw [hg];exact H1.out.size
  rw [←hg] at hcell2 hgsz ⊢;have H2:=zh (H.out.only ho2 (by simp) (by simp) (by simp) (by simp) (by simp));generalize Lib.bytesWorld w1 5 s=w2 at*;have hlb:=lt_of_block H.out.is.cells;have hls:=lt_of_block H.out.is.sts;have hlo:∀ q,ov.ownBlock=some q→q<w.heap.size:=fun q hq=>by obtain ⟨c,hc⟩:=zD H.out.is.out hq;exact lt_of_block hc
  have hnb:g∉b::sb::ov.ownBlock.toList:=by
   simp only [List.mem_cons,Option.mem_toList,not_or];exact ⟨by omega,by omega,fun h=>by have:=hlo _ h;omega⟩
  have Hcell2:=zh hcell2;have Ho2:=zh ho2;clear ho2 hcell2 hgsz hg hlb hls hlo H1 kc Hb hgw
  go_loopw [13,38] (fun n i wr=>∃ (k m:Nat) (ov':Value) (e':Enc),k≤s.size∧i=.int .i64 k∧n=.int .i64 m∧EncAt w0 wr b tb sb ov' e'∧EncGo w2 wr b sb ov ov'∧Hid (AtLetter el inc cs e e' k m)) (fun _ i _=>s.size-(intOf i).toNat)
  case atStart=>exact ⟨0,0,ov,e,Nat.zero_le _,rfl,rfl,H2.out,EncGo.refl _ _ _ _,zh (AtLetter.start _ _ _ _)⟩
  case round=>
   obtain ⟨k,m,ov2,e2,hk,rfl,rfl,h3,h4,hat⟩:=hrel;have H3:=zh h3;have H4:=zh h4;clear h3 h4;have hmk:m≤100:=by have:=hat.out.2.2;omega
   have hcost:Hid (e2.cost<700000000):=zh (by have:=hat.out.2.1;omega)
   by_cases hlt:k<s.size
   ·have hkl:Hid (k<cs.length):=zh (by have:=Hsz.out;omega);have c1:=H4.out.only.cell (Hcell2.out k hlt) hnb;have hlk:zc (cs.getD k 0):=by
     simp only [List.getD,List.getElem?_eq_getElem hkl.out,Option.getD_some];exact Hlet.out _ (List.getElem_mem hkl.out)
    obtain ⟨c,hcd⟩:∃ c,c=cs.getD k 0:=⟨_,rfl⟩;rw [←hcd] at c1 hlk;have Hcd:=zh hcd;clear hcd
    rcases hlk with rfl|rfl|rfl|rfl
    ·skip
     go_wp2_with fail
     refine (zCZ el inc m _ el0 el1 hc2 hc3 (by omega)).mono ?_;rintro r wc ⟨rfl,rfl⟩
     go_wp2_with fail
     refine (H3.out.bin (zz el inc m) 0 hcost.out).mono ?_;rintro r w4 ⟨rfl,ov3,g1,g2⟩;have G1:=zh g1;have G2:=zh (H4.out.trans g2);clear g1 g2
     cases hm:e2.canBin (zz el inc m) 0 with
     |true=>
      have hy:AtLetter el inc cs e (e2.bin (zz el inc m) 0) (k+1) (m+1):=by
       have:=AtLetter.bin_yes hat.out H3.out.good hkl.out (by rw [←Hcd.out];omega) (by rw [←Hcd.out];exact hm);rw [←Hcd.out] at this;exact this
      have Hy:=zh hy;clear hm hy;rw [show Zc true=0 from rfl];go_wp2
      go_roundw
      case rel=>exact ⟨k+1,(m+1),ov3,_,by omega,by go_num,by go_num,G1.out,G2.out,Hy⟩
      case measure=>simp [intOf]<;>omega
     |false=>
      have hy:Enc.letters el inc e 0 cs=(false,e2.bin (zz el inc m) 0):=by
       have:=AtLetter.bin_no hat.out hkl.out (by rw [←Hcd.out];omega) (by rw [←Hcd.out];exact hm);rw [←Hcd.out] at this;exact this
      have Hy:=zh hy;clear hm hy;rw [show Zc false=501 from rfl];go_wp2;go_ret;refine ⟨zq (by rw [Hy.out];rfl),ov3,by rw [Hy.out];exact G1.out,(EncGo.of_only Ho2.out).trans G2.out⟩
    ·skip
     go_wp2_with fail
     refine (zCZ el inc m _ el0 el1 hc2 hc3 (by omega)).mono ?_;rintro r wc ⟨rfl,rfl⟩
     go_wp2_with fail
     refine (H3.out.bin (zz el inc m) 1 hcost.out).mono ?_;rintro r w4 ⟨rfl,ov3,g1,g2⟩;have G1:=zh g1;have G2:=zh (H4.out.trans g2);clear g1 g2
     cases hm:e2.canBin (zz el inc m) 1 with
     |true=>
      have hy:AtLetter el inc cs e (e2.bin (zz el inc m) 1) (k+1) (m+1):=by
       have:=AtLetter.bin_yes hat.out H3.out.good hkl.out (by rw [←Hcd.out];omega) (by rw [←Hcd.out];exact hm);rw [←Hcd.out] at this;exact this
      have Hy:=zh hy;clear hm hy;rw [show Zc true=0 from rfl];go_wp2
      go_roundw
      case rel=>exact ⟨k+1,(m+1),ov3,_,by omega,by go_num,by go_num,G1.out,G2.out,Hy⟩
      case measure=>simp [intOf]<;>omega
     |false=>
      have hy:Enc.letters el inc e 0 cs=(false,e2.bin (zz el inc m) 1):=by
       have:=AtLetter.bin_no hat.out hkl.out (by rw [←Hcd.out];omega) (by rw [←Hcd.out];exact hm);rw [←Hcd.out] at this;exact this
      have Hy:=zh hy;clear hm hy;rw [show Zc false=501 from rfl];go_wp2;go_ret;refine ⟨zq (by rw [Hy.out];rfl),ov3,by rw [Hy.out];exact G1.out,(EncGo.of_only Ho2.out).trans G2.out⟩
    ·skip
     go_wp2_with fail
     refine (H3.out.bypass 0 hcost.out).mono ?_;rintro r w4 ⟨rfl,ov3,g1,g2⟩;have G1:=zh g1;have G2:=zh (H4.out.trans g2);clear g1 g2
     cases hm:e2.may 0 with
     |true=>
      have hy:AtLetter el inc cs e (e2.bypass 0) (k+1) m:=by
       have:=AtLetter.by_yes hat.out H3.out.good hkl.out (by rw [←Hcd.out];omega) (by rw [←Hcd.out];exact hm);rw [←Hcd.out] at this;exact this
      have Hy:=zh hy;clear hm hy;rw [show Zc true=0 from rfl];go_wp2
      go_roundw
      case rel=>exact ⟨k+1,m,ov3,_,by omega,by go_num,rfl,G1.out,G2.out,Hy⟩
      case measure=>simp [intOf]<;>omega
     |false=>
      have hy:Enc.letters el inc e 0 cs=(false,e2.bypass 0):=by
       have:=AtLetter.by_no hat.out hkl.out (by rw [←Hcd.out];omega) (by rw [←Hcd.out];exact hm);rw [←Hcd.out] at this;exact this
      have Hy:=zh hy;clear hm hy;rw [show Zc false=501 from rfl];go_wp2;go_ret;refine ⟨zq (by rw [Hy.out];rfl),ov3,by rw [Hy.out];exact G1.out,(EncGo.of_only Ho2.out).trans G2.out⟩
    ·skip
     go_wp2_with fail
     refine (H3.out.bypass 1 hcost.out).mono ?_;rintro r w4 ⟨rfl,ov3,g1,g2⟩;have G1:=zh g1;have G2:=zh (H4.out.trans g2);clear g1 g2
     cases hm:e2.may 1 with
     |true=>
      have hy:AtLetter el inc cs e (e2.bypass 1) (k+1) m:=by
       have:=AtLetter.by_yes hat.out H3.out.good hkl.out (by rw [←Hcd.out];omega) (by rw [←Hcd.out];exact hm);rw [←Hcd.out] at this;exact this
      have Hy:=zh hy;clear hm hy;rw [show Zc true=0 from rfl];go_wp2
      go_roundw
      case rel=>exact ⟨k+1,m,ov3,_,by omega,by go_num,rfl,G1.out,G2.out,Hy⟩
      case measure=>simp [intOf]<;>omega
     |false=>
      have hy:Enc.letters el inc e 0 cs=(false,e2.bypass 1):=by
       have:=AtLetter.by_no hat.out hkl.out (by rw [←Hcd.out];omega) (by rw [←Hcd.out];exact hm);rw [←Hcd.out] at this;exact this
      have Hy:=zh hy;clear hm hy;rw [show Zc false=501 from rfl];go_wp2;go_ret;refine ⟨zq (by rw [Hy.out];rfl),ov3,by rw [Hy.out];exact G1.out,(EncGo.of_only Ho2.out).trans G2.out⟩
   ·obtain rfl:k=s.size:=by omega
    have hy:=hat.out.ends (by have:=Hsz.out;omega);have Hy:=zh hy;clear hy;go_wp2;go_ret;refine ⟨zq (by rw [Hy.out];rfl),ov2,by rw [Hy.out];exact H3.out,(EncGo.of_only Ho2.out).trans H4.out⟩
 ·have hel:e.elem el inc v most=(600,e):=by unfold Enc.elem;rw [if_neg hc]
  rw [hel];have Hb:=zh (zIf el v most w);have hb2:zAx el v most=0∨zAx el v most=600:=by unfold zAx;split<;>simp
  have hcc:zAx el v most=600∨(zAx el v most=0∧inc<0)∨(zAx el v most=0∧0≤inc∧7<inc):=by omega
  clear hc hb2 hel
  rcases hcc with h6|⟨h6,hi⟩|⟨h6,hi,hi2⟩
  all_goals
   rw [h6] at Hb;clear h6
   go_enter Tryz.func219,Tryz.ntmps219
   go_wp2_with fail
   refine (Hb.out).mono ?_;rintro r w1 ⟨rfl,h1⟩;have H1:=zh h1;clear h1;go_wp2;go_ret;exact ⟨rfl,ov,H.out.only H1.out (by simp) (by simp) (by simp) (by simp) (by simp),H1.out.mono (by simp),fun q hq=> .inl hq⟩
end Go.Proofs.YtcppbdlmcbjmeaaGreatDoor
