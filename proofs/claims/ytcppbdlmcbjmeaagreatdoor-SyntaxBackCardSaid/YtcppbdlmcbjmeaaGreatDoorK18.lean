/- Lemmas that the law needs, part 18. -/
import Derived.Test.YtcppbdlmcbjmeaaGreatDoorK17
set_option maxHeartbeats 6400000
set_option maxRecDepth 100000
namespace Go.Proofs.YtcppbdlmcbjmeaaGreatDoor
open Go.RowKit
variable {c:Cod} {F0 F:List Nat} {w0 w:World} {kb sb mb n f wide:Nat} {S X:Nat→Value} {ds:List DoneP} {r:List Ask}
theorem zGt {kind p v d inc cb:Int} {L G:Nat} {y:Nat→Int} (hc:c.Ok) (h:Scene c F0 w0 w kb sb mb S X n (zG ds) F (zAB kind L G d inc y++r))
 (h0:S 0=.int .i64 f) (h21:S 21=.int .i64 wide) (bf:f≤1000000) (bw:1≤wide∧wide≤1000000) (bn:n≤1000000) (h22:S 22=.int .i64 p)
 (hX0:X 0=.int .i64 kind) (hX48:X 48=.int .i64 cb) (hX49:X 49=.int .i64 v) (hX:∀ j,48≤j→j<482→∃ n,X j=.int .i64 n) (_hcb:0≤cb∧cb≤47)
 (hw:c.wr=true→∀ j,48≤j→j<482→X j=.int .i64 (y j)) (hne:kind≠1) (hL:L≤15) (hT:¬ 0<L+16*G) (hH:G≤2) (hy48:y 48=L+16*G)
 (hinc:inc=zl (decide (0<zBf ds (Zb f wide n)))) (hds:ds.length=n∧∀ d∈ds,0≤d.cbp∧d.cbp≤47) (_hp:0≤p∧p≤51) (_hd:-26≤d∧d≤25) (hq:y 49=(p+d+52)%52) (_hv:0≤v∧v≤51):
 Calls Tryz.prog 73 #[.pointer (some ⟨kb,0,none⟩)] w fun e w'=>e=.returned (.tuple #[])∧∃ F',Scene c F0 w0 w' kb sb mb S (zAt (zAa kind L G) X y) n (zG ds) F' r:=by
 have k2:=h.k2;have m48:w.cell? ⟨mb,48,none⟩=some (.int .i64 cb):=by rw [h.m.cell 48 (by decide),hX48]
 have mE:=hc.mE;have eE:=hc.eE;have mC:=hc.mC;have eC:=hc.eC;have hcw:Hid (c.wr=true→cb=L+16*G):=zh fun hh=>by
  have:=hw hh 48 (by decide) (by decide);rw [hX48] at this;injection this with _ this
  rw [this,hy48]
 have HS:=zh h;have HC:=zh hc;have H0:=zh h0;have H21:=zh h21;have H22:=zh h22;have HX0:=zh hX0;have HX48:=zh hX48;have HX49:=zh hX49;have HX:=zh hX;have Hw:=zh hw;have Hy:=zh hy48;have Hinc:=zh hinc;have Hds:=zh hds;have Hq:=zh hq;have Hb:=zh (And.intro bf (And.intro bw bn));clear h hc h0 h21 h22 hX0 hX48 hX49 hX hw hy48 hinc hds hq bf bw bn
 go_enter Tryz.func73,Tryz.ntmps73
 go_wp2
 go_quiet (fail)
 rename_i nq;have hz:=HS.out.drewN HC.out nq;clear HS k2 m48;generalize w.drewN nq=wz at*;have k1:=hz.k1;have k2:=hz.k2;have m0:wz.cell? ⟨mb,0,none⟩=some (.int .i64 kind):=by rw [hz.m.cell 0 (by decide),HX0.out]
 have Hz:=zh hz;clear hz;have hkb:(kind==1)=false:=by simpa using hne
 obtain ⟨rest,hrest⟩:∃ rest,rest=ZS (zn kind L inc y) 16++((if 0<G then [.coefs (zCF y 450 4) 3 inc,.coefs (zCF y 466 4) 3 inc] else [])++(if G=2 then ZX inc y 8 else []))++r:=⟨_,rfl⟩;have hz:Scene c F0 w0 wz kb sb mb S X n (zG ds) F (.elem 11 0 L 15:: .elem 12 0 G 2::rest):=by
  have:=Hz.out;rw [hrest];have ht:=zBF (L:=L) (G:=G) hne;rw [zAB,if_neg (fun h=>hT (ht.1 h)),if_neg hne,if_neg hne] at this
  simpa using this
 have Hrest:=zh hrest;clear hrest Hz
 go_wp2_with fail
 refine (hz.elem HC.out _ (fun h=>by
  have:=hcw.out h;omega)).mono ?_
 rintro e wa ⟨rfl,F1,g1⟩;have k1a:=g1.k1;have G1:=zh g1;clear hz g1 k1 k2 m0
 go_wp2_with fail
 refine (G1.out.elem HC.out _ (fun h=>by
  have:=hcw.out h;omega)).mono ?_
 rintro e wb ⟨rfl,F2,g2⟩;have q16:IntKind.i64.wrap (16*(G:Int))=16*(G:Int):=sw _ (by omega) (by omega);have qc:IntKind.i64.wrap ((L:Int)+16*(G:Int))=(L:Int)+16*(G:Int):=sw _ (by omega) (by omega);have zk:=g2.m.free 48;have ck:wb.cell? ⟨mb,48,none⟩=some (.int .i64 cb):=by rw [g2.m.cell 48 (by decide),HX48.out]
 have G2:=zh g2;clear g2 G1 k1a
 go_wp2_with fail
 have g3:=G2.out.setM HC.out 48 (.int .i64 (y 48));rw [zGc,Hy.out] at g3;clear G2 zk ck;generalize wb.setCell ⟨mb,48,none⟩ (.int .i64 ((L:Int)+16*(G:Int)))=wc at*;refine (zGM g3.m (k:=kind) (cbp:=y 48) (by rw [zb (by decide),HX0.out]) (zA0 rfl)).mono ?_;rintro e w9 ⟨rfl,rfl⟩;rw [show zAg kind (y 48)=false by rw [Hy.out];exact Bool.eq_false_iff.2 (fun h=>hT ((zBF hne).1 h))];obtain ⟨F3,hF3⟩:∃ F3,F3=F2:=⟨_,rfl⟩;obtain ⟨wd,hwd⟩:∃ wd,wd=wc:=⟨_,rfl⟩;have g4:=g3;rw [ZH (U:=zEa L G) X y (fun j=>by unfold zEa;simp only [hT,false_and,or_false])] at g4;have h0':S 0=.int .i64 f:=H0.out;have h21':S 21=.int .i64 wide:=H21.out;clear g3;obtain ⟨S',hS'⟩:∃ S',S'=S:=⟨_,rfl⟩;rw [←hS',←hF3,←hwd] at g4;rw [←hS'] at h0' h21';subst hwd hF3;have HS':=zh hS';have hst:=g4.st h0' h21' Hb.out.1 Hb.out.2.1 Hb.out.2.2;have hnear:=zDd hst;have hl:=zGd hst Hds.out.1
 have k0:=g4.k0;have k1:=g4.k1;have k2:=g4.k2;have m0:wd.cell? ⟨mb,0,none⟩=some (.int .i64 kind):=by rw [g4.m.cell 0 (by decide),zb (by unfold zEa;omega),HX0.out]
 have G4:=zh g4;have Hl:=zh hl;have Hn:=zh hnear;clear g4 hst hl hnear h0' h21' hS'
 go_wp2_with fail
 refine Hn.out.mono ?_;rintro e we ⟨rfl,nq,rfl⟩;have g5:=G4.out.drewN HC.out nq;have k1:=g5.k1;have k2:=g5.k2;have m0:(wd.drewN nq).cell? ⟨mb,0,none⟩=some (.int .i64 kind):=m0;have G5:=zh g5;have hl:(zm S' (Zb f wide n)=.pointer none∧zBf ds (Zb f wide n)=0)∨∃ g k,zm S' (Zb f wide n)=.pointer (some ⟨g,k*46,none⟩)∧(wd.drewN nq).cell? ⟨g,k*46+1,none⟩=some (.int .i64 (zBf ds (Zb f wide n))):=Hl.out;clear g5 G4 Hl Hn k0;generalize wd.drewN nq=we at*;generalize zm S' (Zw wide n)=p2 at*;have hi2:zl (decide (0<zBf ds (Zb f wide n)))=inc:=Hinc.out.symm;clear Hinc;generalize zBf ds (Zb f wide n)=lc at*;generalize zm S' (Zb f wide n)=p1 at*
 rcases hl with ⟨rfl,rfl⟩|⟨g,k,rfl,ck⟩
 all_goals
  go_wp2_with fail
  refine (zBz _ _).mono ?_;rintro e w9 ⟨rfl,rfl⟩
  first|rw [hi2]|rw [show zl false=inc from hi2]
  try clear ck
  have G7:=G5;clear G5 k1 k2;obtain ⟨r2,hr2⟩:∃ r2,r2=((if 0<G then [.coefs (zCF y 450 4) 3 inc,.coefs (zCF y 466 4) 3 inc] else [])++(if G=2 then ZX inc y 8 else []))++r:=⟨_,rfl⟩;have Hr2:=zh hr2;clear hr2;go_wp2
  go_loopw [99] (fun i wr=>∃ (k:Nat) (F1:List Nat),k≤16∧i=.int .i64 k∧Scene c F0 w0 wr kb sb mb S' (zAt (fun j=>zEa L G j∨Zy kind L k j) X y) n (zG ds) F1 (ZS (zn kind L inc y) (16-k)++r2)) (fun i _=>16-(intOf i).toNat)
  case atStart=>
   refine ⟨0,F3,Nat.zero_le _,rfl,?_⟩;rw [ZH (U:=fun j=>zEa L G j) X y (fun j=>⟨fun h=>h.elim id (fun h=>absurd h (zDq kind L j)),.inl⟩),Hr2.out];have:=G7.out;rw [Hrest.out] at this
   simpa [List.append_assoc] using this
  case round=>
   obtain ⟨k,F1,hk,rfl,hs⟩:=hrel
   by_cases hlt:k<16
   ·have hki:(k:Int)<16:=by omega
    have hki2:(k:Int)<24:=by omega
    have k1:=hs.k1;have m0:wr.cell? ⟨mb,0,none⟩=some (.int .i64 kind):=by rw [hs.m.cell 0 (by decide),zb (by unfold zEa Zy;omega),HX0.out]
    have Hs:=zh hs;clear hs;have hcast:(L:Int)/2^(k/4)%2=((L/2^(k/4)%2:Nat):Int):=by push_cast;rfl
    rcases Nat.mod_two_eq_zero_or_one (L/2^(k/4)) with hb|hb
    ·have hbi:((L:Int)/2^(k/4)%2==0)=true:=by rw [hcast,hb];rfl
     clear hcast;go_wp2;refine ⟨⟨k+1,F1,by omega,by simp,?_⟩,by simp [intOf];omega⟩;rw [ZH (U:=fun j=>zEa L G j∨Zy kind L k j) X y (fun j=>by rw [zDr kind hb])];have:=Hs.out;rw [zAc _ _ _ hlt hb] at this;exact this
    ·have hbi:((L:Int)/2^(k/4)%2==0)=false:=by rw [hcast,hb];rfl
     clear hcast
     go_wp2_with fail
     go_still_tail 13,(by kernel_rfl)
     change wpList _ _ _ _ _ wr.drew
     have hs:=Hs.out.drew HC.out;rw [zBr hne _ _ hlt hb] at hs;clear Hs k1 m0;generalize wr.drew=ws at*
     go_wp2_with fail
     rw [show 50+k*16=50+16*k by omega];refine (hs.coefs HC.out 16 (off:=50+16*k) (len:=16) (by omega) (by decide) HX.out Hw.out).mono ?_;rintro e wt ⟨rfl,F2,g8⟩;clear hs;have G8:=zh g8;clear g8;go_wp2;refine ⟨⟨k+1,F2,by omega,by simp,?_⟩,by simp [intOf];omega⟩;rw [ZH (U:=fun j=>(zEa L G j∨Zy kind L k j)∨(50+16*k≤j∧j<50+16*k+16)) X y (fun j=>by rw [zHG hne hb];exact (or_assoc).symm)];exact G8.out
   ·obtain rfl:k=16:=by omega
    have Hs:Hid (Scene c F0 w0 wr kb sb mb S' (zAt (fun j=>zEa L G j∨Zy kind L 16 j) X y) n (zG ds) F1 r2):=zh hs;clear hs;have k1:=Hs.out.k1
    by_cases hG:0<G
    ·have hGi:(0:Int)<G:=by omega
     go_wp2_with fail
     go_still_tail 12,(by kernel_rfl)
     change wpList _ _ _ _ _ wr.drew
     have hs:=Hs.out.drew HC.out;rw [Hr2.out,if_pos hG] at hs;clear Hs k1;generalize wr.drew=ws at*
     go_wp2_with fail
     refine (hs.coefs HC.out 16 (off:=450) (len:=4) (by omega) (by decide) HX.out Hw.out).mono ?_;rintro e wt ⟨rfl,F2,g8⟩;have k1:=g8.k1;have G8:=zh g8;clear hs g8
     go_wp2_with fail
     go_still_tail 12,(by kernel_rfl)
     change wpList _ _ _ _ _ wt.drew
     have hs:=G8.out.drew HC.out;clear G8 k1;generalize wt.drew=wu at*
     go_wp2_with fail
     refine (hs.coefs HC.out 16 (off:=466) (len:=4) (by omega) (by decide) HX.out Hw.out).mono ?_;rintro e wv ⟨rfl,F3,g9⟩;have k1:=g9.k1;have g9:Scene c F0 w0 wv kb sb mb S' (zAt (fun j=>((zEa L G j∨Zy kind L 16 j)∨(450≤j∧j<450+4))∨(466≤j∧j<466+4)) X y) n (zG ds) F3 ((if G=2 then ZX inc y 8 else [])++r):=g9;clear hs;rw [ZH (U:=zEA kind L G) X y (fun j=>zIJ hG)] at g9;have G9:Hid (Scene c F0 w0 wv kb sb mb S' (zAt (zEA kind L G) X y) n (zG ds) F3 (zAD G inc y 16++r)):=zh g9;clear g9;obtain h2|h2:G=1∨G=2:=by omega
     ·rw [show (G:Int)=1 by omega];go_wp2
      go_loopw [9] (fun i wr=>∃ (F1:List Nat),i=.int .i64 16∧Scene c F0 w0 wr kb sb mb S' (zAt (zEA kind L G) X y) n (zG ds) F1 r) (fun i _=>24-(intOf i).toNat)
      case atStart=>
       have:=G9.out;rw [zu inc y (.inr (by omega))] at this;exact ⟨_,rfl,this⟩
      case round=>
       obtain ⟨F4,rfl,hs⟩:=hrel;have Hs:=zh hs;clear hs;go_wp2;go_end0;refine ⟨rfl,F4,?_⟩;have g:=Hs.out;rw [HS'.out,ZH (U:=zAa kind L G) X y (fun j=>⟨fun h=>(zAK hne (k:=16) (by omega)).1 (.inl h),fun h=>((zAK hne (k:=16) (by omega)).2 h).elim id (fun h=>absurd h (Zo j))⟩)] at g;exact g
     ·rw [show (G:Int)=2 by omega];go_wp2
      go_loopw [9] (fun i wr=>∃ (q:Nat) (F1:List Nat),16≤q∧q≤24∧i=.int .i64 q∧Scene c F0 w0 wr kb sb mb S' (zAt (fun j=>zEA kind L G j∨Zr q j) X y) n (zG ds) F1 (zAD G inc y q++r)) (fun i _=>24-(intOf i).toNat)
      case atStart=>
       refine ⟨16,F3,Nat.le_refl _,by decide,rfl,?_⟩;rw [ZH (U:=zEA kind L G) X y (fun j=>⟨fun h=>h.elim id (fun h=>absurd h (Zo j)),.inl⟩)];exact G9.out
      case round=>
       obtain ⟨q,F4,hq16,hk,rfl,hs⟩:=hrel
       by_cases hlt:q<24
       ·have hki:(q:Int)<24:=by omega
        rw [zCU inc y h2 hlt] at hs;have k1:=hs.k1;have Hs:=zh hs;clear hs
        go_wp2_with fail
        go_still_tail 13,(by kernel_rfl)
        change wpList _ _ _ _ _ wr.drew
        have hs:=Hs.out.drew HC.out;clear Hs k1;generalize wr.drew=ws at*
        go_wp2_with fail
        rw [show 50+q*16+1=50+16*q+1 by omega];refine (hs.coefs HC.out 15 (off:=50+16*q+1) (len:=15) (by omega) (by decide) HX.out Hw.out).mono ?_;rintro e wt ⟨rfl,F2,g8⟩;clear hs;rw [←ZH (T:=fun j=>zEA kind L G j∨Zr (q+1) j) X y (fun j=>by rw [zCW q j hq16];exact (or_assoc).symm)] at g8;have G8:Hid (Scene c F0 w0 wt kb sb mb S' (zAt (fun j=>zEA kind L G j∨Zr (q+1) j) X y) n (zG ds) F2 (zAD G inc y (q+1)++r)):=zh g8;clear g8;go_wp2;exact ⟨⟨q+1,F2,by omega,by omega,by simp,G8.out⟩,by simp [intOf];omega⟩
       ·obtain rfl:q=24:=by omega
        rw [zu inc y (.inl rfl)] at hs;have Hs:Hid (Scene c F0 w0 wr kb sb mb S' (zAt (fun j=>zEA kind L G j∨Zr 24 j) X y) n (zG ds) F4 r):=zh hs;clear hs;go_wp2;go_end0;refine ⟨rfl,F4,?_⟩;have g:=Hs.out;rw [HS'.out,ZH (U:=zAa kind L G) X y (fun j=>zAK hne (by omega))] at g;exact g
    ·have hGi:¬ (0:Int)<G:=by omega
     have g9:=Hs.out;rw [Hr2.out,if_neg hG,ZH (U:=zEA kind L G) X y (fun j=>zIK hG)] at g9;have G9:Hid (Scene c F0 w0 wr kb sb mb S' (zAt (zEA kind L G) X y) n (zG ds) F1 (zAD G inc y 16++r)):=zh g9;clear Hs g9;rw [show (G:Int)=0 by omega];go_wp2
     go_loopw [9] (fun i wr=>∃ (F1:List Nat),i=.int .i64 16∧Scene c F0 w0 wr kb sb mb S' (zAt (zEA kind L G) X y) n (zG ds) F1 r) (fun i _=>24-(intOf i).toNat)
     case atStart=>
      have:=G9.out;rw [zu inc y (.inr (by omega))] at this;exact ⟨_,rfl,this⟩
     case round=>
      obtain ⟨F4,rfl,hs⟩:=hrel;have Hs:=zh hs;clear hs;go_wp2;go_end0;refine ⟨rfl,F4,?_⟩;have g:=Hs.out;rw [HS'.out,ZH (U:=zAa kind L G) X y (fun j=>⟨fun h=>(zAK hne (k:=16) (by omega)).1 (.inl h),fun h=>((zAK hne (k:=16) (by omega)).2 h).elim id (fun h=>absurd h (Zo j))⟩)] at g;exact g
theorem zKu {c:Cod} {F0 F:List Nat} {w0 w:World} {kb sb mb n f wide:Nat} {S X:Nat→Value} {ds:List DoneP} {r:List Ask} {kind p v d inc cb:Int} {L G:Nat} {y:Nat→Int} (hc:c.Ok) (h:Scene c F0 w0 w kb sb mb S X n (zG ds) F (zAB kind L G d inc y++r))
 (h0:S 0=.int .i64 f) (h21:S 21=.int .i64 wide) (bf:f≤1000000) (bw:1≤wide∧wide≤1000000) (bn:n≤1000000) (h22:S 22=.int .i64 p)
 (hX0:X 0=.int .i64 kind) (hX48:X 48=.int .i64 cb) (hX49:X 49=.int .i64 v) (hX:∀ j,48≤j→j<482→∃ n,X j=.int .i64 n) (hcb:0≤cb∧cb≤47)
 (hw:c.wr=true→∀ j,48≤j→j<482→X j=.int .i64 (y j)) (hL:L≤15) (hL1:kind=1→L=0∨L=15) (hH:G≤2) (hy48:y 48=L+16*G)
 (hinc:inc=zl (decide (0<zBf ds (Zb f wide n)))) (hds:ds.length=n∧∀ d∈ds,0≤d.cbp∧d.cbp≤47) (hp:0≤p∧p≤51) (hd:-26≤d∧d≤25) (hq:y 49=(p+d+52)%52) (hv:0≤v∧v≤51):
 Calls Tryz.prog 73 #[.pointer (some ⟨kb,0,none⟩)] w fun e w'=>e=.returned (.tuple #[])∧∃ F',Scene c F0 w0 w' kb sb mb (if zAg kind (L+16*G)=true then upd S 22 (.int .i64 (y 49)) else S) (zAt (zAa kind L G) X y) n (zG ds) F' r:=by
 by_cases h1:kind=1
 ·subst h1;rw [if_pos (show zAg 1 ((L:Int)+16*(G:Int))=true by unfold zAg;simp)];exact zIm hc h h0 h21 bf bw bn h22 hX0 hX48 hX49 hX hcb hw (hL1 rfl) hH hy48 hinc hds hp hd hq hv
 ·by_cases ht:0<L+16*G
  ·rw [if_pos ((zBF h1).2 (by omega))];exact zGs hc h h0 h21 bf bw bn h22 hX0 hX48 hX49 hX hcb hw h1 hL ht hH hy48 hinc hds hp hd hq hv
  ·rw [if_neg (fun h=>ht (by have:=(zBF h1).1 h;omega))];exact zGt hc h h0 h21 bf bw bn h22 hX0 hX48 hX49 hX hcb hw h1 hL ht hH hy48 hinc hds hp hd hq hv
end Go.Proofs.YtcppbdlmcbjmeaaGreatDoor
