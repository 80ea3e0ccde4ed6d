/- Lemmas that the law needs, part 4. -/
import Derived.Test.YtcppbdlmcbjmeaaGreatDoorJ03
namespace Go.Proofs.YtcppbdlmcbjmeaaGreatDoor
def zc (c:Int):Prop:=c=48∨c=49∨c=97∨c=98
theorem zH6 (x i:Nat):∀ c∈zJZ x i,zc c:=by
 induction i with
 |zero=>intro c h;cases h
 |succ i ih=>
  intro c h;simp only [zJZ,List.mem_cons] at h
  rcases h with rfl|h
  ·unfold zc;omega
  ·exact ih c h
theorem zG1 (f x k:Nat):∀ c∈zBp f x k,zc c:=by
 induction f generalizing x k with
 |zero=>intro c h;cases h
 |succ f ih=>
  intro c h;unfold zBp at h
  split at h
  ·rcases List.mem_cons.1 h with rfl|h
   ·unfold zc;omega
   ·exact ih _ _ c h
  ·rcases List.mem_cons.1 h with rfl|h
   ·unfold zc;omega
   ·exact zH6 _ _ c h
theorem zEB (n l:Nat):∀ c∈zAl n l,zc c:=by
 intro c h;unfold zAl at h
 rcases List.mem_append.1 h with h|h
 ·obtain ⟨_,rfl⟩:=List.mem_replicate.1 h;unfold zc;omega
 ·split at h
  ·simp at h;subst h;unfold zc;omega
  ·cases h
theorem zDS (v o k:Nat):∀ c∈Zj v o k,zc c:=by
 intro c h;unfold Zj at h
 rcases List.mem_append.1 h with h|h
 ·exact zEB _ _ c h
 ·split at h
  ·exact zG1 _ _ _ c h
  ·cases h
theorem zG5 (v:Int):∀ c∈zCo v,zc c:=by
 intro c h;unfold zCo at h
 split at h
 ·simp at h;subst h;unfold zc;omega
 ·split at h
  ·simp at h;subst h;unfold zc;omega
  ·cases h
theorem zCZ (el v most:Int):∀ c∈zCr el v most,zc c:=by
 intro c h;unfold zCr at h
 split at h
 ·rename_i hm;unfold zG7 at h
  split at h
  ·rename_i hk;rw [hk] at hm;simp only [Zz,if_true,decide_eq_true_eq] at hm;simp at h;subst h;unfold zc;omega
  ·split at h
   ·exact zEB _ _ c h
   ·split at h
    ·rcases List.mem_append.1 h with h|h
     ·exact zDS _ _ _ c h
     ·exact zG5 _ c h
    ·exact zDS _ _ _ c h
 ·cases h
theorem zEN (el v most:Int):(zCr el v most).length≤100:=by
 unfold zCr
 split
 ·rename_i hm;unfold zG7
  split
  ·simp
  ·rename_i h1
   split
   ·rename_i h2;rw [h2] at hm;simp only [Zz,show ¬ ((2:Int)=1) by omega,if_false,if_true,decide_eq_true_eq] at hm;rw [zEC _ _ (by omega)];omega
   ·split
    ·rw [List.length_append];have h3:=zA7 v.natAbs 9 3;have h4:(zCo v).length≤1:=by unfold zCo;split;simp;split<;>simp
     omega
    ·have h3:=zA7 v.natAbs 14 0;omega
 ·simp
def zAC (el inc:Int) (n:Nat):Int:=8*el+min (inc+n) 7
def Enc.letter (e:Enc) (el inc:Int) (n:Nat) (c:Int):Bool×Enc×Nat:=
 if 97≤c then (e.may (c-97),e.bypass (c-97),n) else (e.canBin (zAC el inc n) (c-48),e.bin (zAC el inc n) (c-48),n+1)
def Enc.letters (el inc:Int):Enc→Nat→List Int→Bool×Enc
 |e,_,[]=>(true,e)
 |e,n,c::cs=>if (e.letter el inc n c).1 then Enc.letters el inc (e.letter el inc n c).2.1 (e.letter el inc n c).2.2 cs else (false,(e.letter el inc n c).2.1)
def zJw (ok:Bool):Int:=if ok then 0 else 601
def Enc.elem (e:Enc) (el inc v most:Int):Int×Enc:=
 if zAy el v most=0∧0≤inc∧inc≤7 then (zJw (Enc.letters el inc e 0 (zCr el v most)).1,(Enc.letters el inc e 0 (zCr el v most)).2) else (600,e)
def zEL (el inc:Int) (n:Nat) (c:Int):Deed:=if 97≤c then .byp (c-97) else .bin (zAC el inc n).toNat (c-48)
def zm (el inc:Int):Nat→List Int→List Deed
 |_,[]=>[]
 |n,c::cs=>zEL el inc n c::zm el inc (if 97≤c then n else n+1) cs
theorem zGq (el inc:Int) (cs:List Int):∀ n,(zm el inc n cs).length=cs.length:=by
 induction cs with
 |nil=>intro n;rfl
 |cons c cs ih=>intro n;simp [zm,ih]
theorem zB9 (el inc:Int) (n:Nat) (h0:0≤el) (h1:el≤19) (h2:0≤inc):0≤zAC el inc n∧zAC el inc n<160:=by unfold zAC;omega
theorem zFL (el inc:Int) (cs:List Int) (h0:0≤el) (h1:el≤19) (h2:0≤inc):∀ n,(∀ c∈cs,zc c)→∀ o∈zm el inc n cs,o.fits 256:=by
 induction cs with
 |nil=>intro n _ o h;cases h
 |cons c cs ih=>
  intro n hc o h;simp only [zm,List.mem_cons] at h
  rcases h with rfl|h
  ·have hl:=hc c (by simp);unfold zEL;unfold zc at hl
   split
   ·show c-97=0∨c-97=1;omega
   ·have:=zB9 el inc n h0 h1 h2;exact ⟨by omega,by omega⟩
  ·exact ih _ (fun c hc'=>hc c (by simp [hc'])) o h
theorem Enc.letters_live (el inc:Int) (h0:0≤el) (h1:el≤19) (h2:0≤inc) (cs:List Int):∀ (e:Enc) (n:Nat),e.Live→e.st.length=256→(∀ c∈cs,zc c)→Enc.letters el inc e n cs=(true,e.run (zm el inc n cs)):=by
 induction cs with
 |nil=>intro e n _ _ _;rfl
 |cons c cs ih=>
  intro e n hl hst hc;have hcl:=hc c (by simp);have hf:(zEL el inc n c).fits e.st.length:=by
   rw [hst];exact zFL el inc (c::cs) h0 h1 h2 n hc _ (by simp [zm])
  obtain ⟨l1,l2,-,-⟩:=e.live_deed _ hl hf;have key:e.letter el inc n c=(true,e.deed (zEL el inc n c),if 97≤c then n else n+1):=by
   unfold zc at hcl;have hov:e.over=false:=hl.going;unfold Enc.letter zEL
   split
   ·have:e.may (c-97)=true:=by
     unfold Enc.may;rw [hov];simp;omega
    rw [this]
    rfl
   ·have hr:=zB9 el inc n h0 h1 h2;have:e.canBin (zAC el inc n) (c-48)=true:=by
     unfold Enc.canBin Enc.may;rw [hov,hst];simp;omega
    rw [this];simp only [Enc.deed];rw [Int.toNat_of_nonneg hr.1]
  unfold Enc.letters;rw [key];simp only [if_true];rw [ih _ _ l1 (by rw [l2,hst]) (fun c hc'=>hc c (by simp [hc']))]
  rfl
theorem zBL (el:Int) (h:ZK el≠0):0≤el∧el≤19:=by
 unfold ZK at h
 split at h
 ·exact absurd rfl h
 ·refine ⟨by omega,?_⟩
  rcases Nat.lt_or_ge el.toNat 20 with g|g
  ·omega
  ·have:kindTab[el.toNat]? =none:=List.getElem?_eq_none (by simpa [kindTab] using g);simp [List.getD,this] at h
theorem zCD (el v most:Int) (h:zAy el v most=0):0≤el∧el≤19∧Zz (ZK el) v most=true:=by
 unfold zAy at h
 split at h
 ·rename_i hm;have hk:ZK el≠0:=by
   intro hk;rw [hk] at hm
   revert hm
   simp [Zz]
  have:=zBL el hk;exact ⟨this.1,this.2,hm⟩
 ·omega
def zW (el inc v most:Int):List Deed:=zm el inc 0 (zCr el v most)
theorem Enc.elem_live (e:Enc) (el inc v most:Int) (h:e.Live) (hst:e.st.length=256):
 e.elem el inc v most=if zAy el v most=0∧0≤inc∧inc≤7 then (0,e.run (zW el inc v most)) else (600,e):=by
 unfold Enc.elem
 split
 ·rename_i hc;obtain ⟨h0,h1,-⟩:=zCD el v most hc.1;rw [Enc.letters_live el inc h0 h1 hc.2.1 _ e 0 h hst (zCZ el v most)]
  rfl
 ·rfl
def Dec.gives:Dec→List Deed→Dec→Prop
 |d,[],d'=>d'=d
 |d,o::os,d'=>∃ d1,d.deed o=(o.bit,0,d1)∧d1.s=d.s∧Dec.gives d1 os d'
theorem Dec.gives_s (os:List Deed):∀ d d':Dec,d.gives os d'→d'.s=d.s:=by
 induction os with
 |nil=>intro d d' h;rw [show d'=d from h]
 |cons o os ih=>
  intro d d' h;obtain ⟨d1,-,h2,h3⟩:=h;exact (ih d1 d' h3).trans h2
theorem Dec.gives_append (a b:List Deed):∀ d d':Dec,d.gives (a++b) d'→∃ d1,d.gives a d1∧d1.gives b d':=by
 induction a with
 |nil=>intro d d' h;exact ⟨d,rfl,h⟩
 |cons o a ih=>
  intro d d' h;obtain ⟨d1,h1,h2,h3⟩:=h;obtain ⟨d2,g1,g2⟩:=ih d1 d' h3;exact ⟨d2,⟨d1,h1,h2,g1⟩,g2⟩
theorem Read.gives (xs:List Int) (ops os:List Deed) (hf:∀ o∈ops,o.fits xs.length):∀ (j:Nat) (d:Dec) (rest:List Deed),Read xs ops j d→ops.drop j=os++rest→∃ d',d.gives os d'∧Read xs ops (j+os.length) d':=by
 induction os with
 |nil=>intro j d rest h _;exact ⟨d,rfl,h⟩
 |cons o os ih=>
  intro j d rest h hd;have ho:ops[j]? =some o:=by
   have:=congrArg (fun l=>l[0]?) hd
   simpa using this
  obtain ⟨d1,h1,h2⟩:=Read.step xs ops j d hf h o ho;have hd2:ops.drop (j+1)=os++rest:=by
   have:=congrArg (fun l=>l.drop 1) hd
   simpa [List.drop_drop] using this
  obtain ⟨d',g1,g2⟩:=ih (j+1) d1 rest h2 hd2;refine ⟨d',⟨d1,h1,h2.text.trans h.text.symm,g1⟩,?_⟩;rw [List.length_cons,show j+(os.length+1)=j+1+os.length by omega];exact g2
theorem zI5 (v l:Nat):zAl (v+1) (l+1)=49::zAl v l:=by
 unfold zAl
 by_cases h:v<l
 ·rw [if_pos h,if_pos (by omega)];simp [List.replicate_succ]
 ·rw [if_neg h,if_neg (by omega)];simp [List.replicate_succ]
theorem zHO {d d':Dec} {el inc:Int} {n:Nat} {cs:List Int} (hr:0≤zAC el inc n) (h:d.gives (zm el inc n (49::cs)) d'):
 ∃ d1,d.bin (zAC el inc n)=(1,0,d1)∧d1.s=d.s∧d1.gives (zm el inc (n+1) cs) d':=by
 obtain ⟨d1,h1,h2,h3⟩:=h;refine ⟨d1,?_,h2,h3⟩;have:=h1;simp only [zEL,show ¬ ((97:Int)≤49) by omega,if_false,Dec.deed,Deed.bit] at this;rw [Int.toNat_of_nonneg hr] at this;exact this
theorem zEJ {d d':Dec} {el inc:Int} {n:Nat} {cs:List Int} (hr:0≤zAC el inc n) (h:d.gives (zm el inc n (48::cs)) d'):
 ∃ d1,d.bin (zAC el inc n)=(0,0,d1)∧d1.s=d.s∧d1.gives (zm el inc (n+1) cs) d':=by
 obtain ⟨d1,h1,h2,h3⟩:=h;refine ⟨d1,?_,h2,h3⟩;have:=h1;simp only [zEL,show ¬ ((97:Int)≤48) by omega,if_false,Dec.deed,Deed.bit] at this;rw [Int.toNat_of_nonneg hr] at this;exact this
theorem zJI {d d':Dec} {el inc:Int} {n:Nat} {v:Int} {cs:List Int} (hv:v=0∨v=1) (hr:0≤zAC el inc n) (h:d.gives (zm el inc n ((48+v)::cs)) d'):
 ∃ d1,d.bin (zAC el inc n)=(v,0,d1)∧d1.s=d.s∧d1.gives (zm el inc (n+1) cs) d':=by
 rcases hv with rfl|rfl
 ·exact zEJ hr h
 ·exact zHO hr h
theorem zDT {d d':Dec} {el inc:Int} {n:Nat} {c:Int} {cs:List Int} (hc:97≤c) (h:d.gives (zm el inc n (c::cs)) d'):
 ∃ d1,d.bypass=(c-97,0,d1)∧d1.s=d.s∧d1.gives (zm el inc n cs) d':=by
 obtain ⟨d1,h1,h2,h3⟩:=h;refine ⟨d1,?_,h2,?_⟩
 ·have:=h1;simp only [zEL,hc,if_true,Dec.deed,Deed.bit] at this;exact this
 ·simpa only [hc,if_true] using h3
theorem zKE (x i:Nat):x%2^(i+1)=x/2^i%2*2^i+x%2^i:=by
 have h1:x%2^(i+1)=x%(2^i*2):=by rw [Nat.pow_succ]
 rw [h1,Nat.mod_mul,Nat.mul_comm,Nat.add_comm]
def Zi (b:Bool):Int:=if b then 1 else 0
theorem zDv (b:Bool):Zi b=0∨Zi b=1:=by cases b<;>simp [Zi]
def zAF (cs:List Int):Nat→Int
 |0=>-1
 |k+1=>if cs.getD k 0≠0 then (k:Int) else zAF cs k
def ZU (cs:List Int):Int:=zAF cs cs.length
theorem zCU (cs:List Int) (k:Nat):-1≤zAF cs k∧zAF cs k<k:=by
 induction k with
 |zero=>simp [zAF]
 |succ k ih=>unfold zAF;split<;>omega
theorem zHM (cs:List Int) (k p:Nat) (hp:p<k) (h:cs.getD p 0≠0):(p:Int)≤zAF cs k:=by
 induction k with
 |zero=>omega
 |succ k ih=>
  unfold zAF
  split
  ·omega
  ·rename_i hk
   rcases Nat.lt_or_ge p k with hlt|hge
   ·exact ih hlt
   ·obtain rfl:p=k:=by omega
    exact absurd h hk
theorem zE5 (cs:List Int) (k:Nat) (h:0≤zAF cs k):cs.getD (zAF cs k).toNat 0≠0:=by
 induction k with
 |zero=>simp [zAF] at h
 |succ k ih=>
  unfold zAF at h ⊢
  split
  ·rename_i hk;simpa using hk
  ·rename_i hk;rw [if_neg hk] at h;exact ih h
def zDE (cs:List Int):Nat→Bool
 |0=>false
 |k+1=>zDE cs k||decide (cs.getD k 0≠0)
theorem zHq (cs:List Int) (k:Nat):zDE cs k=decide (0≤zAF cs k):=by
 induction k with
 |zero=>simp [zDE,zAF]
 |succ k ih=>
  unfold zDE zAF;rw [ih]
  by_cases h:cs.getD k 0≠0
  ·rw [if_pos h,decide_eq_true h,Bool.or_true];exact (decide_eq_true (by omega)).symm
  ·rw [if_neg h,decide_eq_false h,Bool.or_false]
def zC5 (i:Nat):Int:=min ((i:Int)/2) 7
def zj (cs:List Int) (last:Int):Nat→Nat→List Deed
 |_,0=>[]
 |i,m+1=>if cs.getD i 0=0 then zW 15 (zC5 i) 0 1++zj cs last (i+1) m
  else zW 15 (zC5 i) 1 1++(zW 16 (zC5 i) (Zi (decide ((i:Int)=last))) 1++(if (i:Int)=last then [] else zj cs last (i+1) m))
def ZW (cs:List Int) (last:Int):Nat→Nat→List Nat
 |i,0=>[i]
 |i,m+1=>if cs.getD i 0=0 then ZW cs last (i+1) m else i::(if (i:Int)=last then [] else ZW cs last (i+1) m)
theorem zHE (cs:List Int) (last:Int) (m:Nat):∀ i,i+m+1=cs.length→last=ZU cs→(i:Int)≤last→
 (∀ p∈ZW cs last i m,i≤p∧p<cs.length∧cs.getD p 0≠0)∧(∀ p,i≤p→p<cs.length→cs.getD p 0≠0→p∈ZW cs last i m):=by
 induction m with
 |zero=>
  intro i hi hl hle;have hr:=zCU cs cs.length;have h1:last=(i:Int):=by unfold ZU at hl;omega
  have h2:=zE5 cs cs.length (by unfold ZU at hl;omega);have h3:(zAF cs cs.length).toNat=i:=by unfold ZU at hl;omega
  rw [h3] at h2;unfold ZW
  constructor
  ·intro p hp;simp at hp;subst hp;exact ⟨Nat.le_refl _,by omega,h2⟩
  ·intro p h4 h5 _;simp;omega
 |succ m ih=>
  intro i hi hl hle;have hlt:=zE5 cs cs.length (by unfold ZU at hl;omega);unfold ZW
  split
  ·rename_i h0;have hne:(i:Int)≠last:=by
    intro he
    apply hlt
    have:(zAF cs cs.length).toNat=i:=by unfold ZU at hl;omega
    rw [this];exact h0
   obtain ⟨a,b⟩:=ih (i+1) (by omega) hl (by omega)
   constructor
   ·intro p hp;obtain ⟨q1,q2,q3⟩:=a p hp;exact ⟨by omega,q2,q3⟩
   ·intro p h4 h5 h6
    rcases Nat.lt_or_ge i p with h|h
    ·exact b p (by omega) h5 h6
    ·obtain rfl:p=i:=by omega
     exact absurd h0 h6
  ·rename_i h0
   by_cases he:(i:Int)=last
   ·rw [if_pos he]
    constructor
    ·intro p hp;simp at hp;subst hp;exact ⟨Nat.le_refl _,by omega,h0⟩
    ·intro p h4 h5 h6;have:=zHM cs cs.length p h5 h6;simp;unfold ZU at hl;omega
   ·rw [if_neg he];obtain ⟨a,b⟩:=ih (i+1) (by omega) hl (by omega)
    constructor
    ·intro p hp
     rcases List.mem_cons.1 hp with rfl|hp
     ·exact ⟨Nat.le_refl _,by omega,h0⟩
     ·obtain ⟨q1,q2,q3⟩:=a p hp;exact ⟨by omega,q2,q3⟩
    ·intro p h4 h5 h6
     rcases Nat.lt_or_ge i p with h|h
     ·exact List.mem_cons_of_mem _ (b p (by omega) h5 h6)
     ·obtain rfl:p=i:=by omega
      simp
theorem zCQ (cs:List Int) (last:Int) (m:Nat):∀ i,(ZW cs last i m).length≤m+1:=by
 induction m with
 |zero=>intro i;simp [ZW]
 |succ m ih=>
  intro i;unfold ZW;have:=ih (i+1)
  split
  ·omega
  ·rw [List.length_cons]
   split
   ·simp
   ·omega
theorem zHD (cs:List Int) (last:Int) (m:Nat):∀ i,0<(ZW cs last i m).length:=by
 induction m with
 |zero=>intro i;simp [ZW]
 |succ m ih=>
  intro i;unfold ZW
  split
  ·exact ih (i+1)
  ·simp
def zG8 (cat:Int) (g:Nat):Int:=min 5 (g:Int)+Zi (decide (1<cat))
def zAP (cs:List Int) (cat:Int):List Nat→Nat→List Deed
 |[],_=>[]
 |p::ps,g=>zW 17 (zG8 cat g) ((cs.getD p 0).natAbs-1:Int) 1++(Deed.byp (Zi (decide (cs.getD p 0<0)))::zAP cs cat ps (if 1<(cs.getD p 0).natAbs then g+1 else g))
def zZ (cs:List Int) (cat inc:Int):List Deed:=
 if 0≤ZU cs then zW 14 (2*cat+inc) 1 1++(zj cs (ZU cs) 0 (cs.length-1)++zAP cs cat (ZW cs (ZU cs) 0 (cs.length-1)).reverse 0)
 else zW 14 (2*cat+inc) 0 1
theorem Zq (el inc v most:Int) (h0:0≤el) (h1:el≤19) (h2:0≤inc):∀ o∈zW el inc v most,o.fits 256:=zFL el inc _ h0 h1 h2 0 (zCZ el v most)
theorem Zf (el inc v most:Int):(zW el inc v most).length≤100:=by
 unfold zW;rw [zGq];exact zEN el v most
theorem zLs (b:Bool):(Deed.byp (Zi b)).fits 256:=zDv b
theorem zI2 (cat:Int) (g:Nat):0≤zG8 cat g:=by
 unfold zG8;have:=zDv (decide (1<cat));omega
theorem zKO (i:Nat):0≤zC5 i:=by unfold zC5;omega
theorem zEr (cs:List Int) (last:Int) (m:Nat):∀ i,∀ o∈zj cs last i m,o.fits 256:=by
 induction m with
 |zero=>intro i o h;cases h
 |succ m ih=>
  intro i o h;have hi:=zKO i;unfold zj at h
  split at h
  ·rcases List.mem_append.1 h with h|h
   ·exact Zq _ _ _ _ (by omega) (by omega) hi o h
   ·exact ih _ o h
  ·rcases List.mem_append.1 h with h|h
   ·exact Zq _ _ _ _ (by omega) (by omega) hi o h
   ·rcases List.mem_append.1 h with h|h
    ·exact Zq _ _ _ _ (by omega) (by omega) hi o h
    ·split at h
     ·cases h
     ·exact ih _ o h
theorem zDl (cs:List Int) (last:Int) (m:Nat):∀ i,(zj cs last i m).length≤200*m:=by
 induction m with
 |zero=>intro i;simp [zj]
 |succ m ih=>
  intro i;have h1:=Zf 15 (zC5 i) 0 1;have h2:=Zf 15 (zC5 i) 1 1;have h3:=Zf 16 (zC5 i) (Zi (decide ((i:Int)=last))) 1;have h4:=ih (i+1);unfold zj
  split
  ·rw [List.length_append];omega
  ·rw [List.length_append,List.length_append]
   split
   ·simp;omega
   ·omega
theorem zFi (cs:List Int) (cat:Int) (P:List Nat):∀ g,∀ o∈zAP cs cat P g,o.fits 256:=by
 induction P with
 |nil=>intro g o h;cases h
 |cons p P ih=>
  intro g o h;unfold zAP at h
  rcases List.mem_append.1 h with h|h
  ·exact Zq _ _ _ _ (by omega) (by omega) (zI2 cat g) o h
  ·rcases List.mem_cons.1 h with rfl|h
   ·exact zLs _
   ·exact ih _ o h
theorem zEQ (cs:List Int) (cat:Int) (P:List Nat):∀ g,(zAP cs cat P g).length≤101*P.length:=by
 induction P with
 |nil=>intro g;simp [zAP]
 |cons p P ih=>
  intro g;have h1:=Zf 17 (zG8 cat g) ((cs.getD p 0).natAbs-1:Int) 1;have h2:=ih (if 1<(cs.getD p 0).natAbs then g+1 else g);unfold zAP;rw [List.length_append,List.length_cons,List.length_cons];omega
def zEo (n:Int):Bool:=decide (n=4∨n=15∨n=16)
def zGv (n cat inc:Int):Bool:=zEo n&&decide (0≤cat∧cat≤3∧0≤inc∧inc≤1)
def zE1 (ok:Bool):Int:=if ok then 0 else 800
def rangeB (cs:List Int):Bool:=cs.all fun x=>decide (-32767≤x∧x≤32767)
def zA0 (cs:List Int) (cat inc:Int):Bool:=zGv cs.length cat inc&&rangeB cs
def zKq (cs:List Int) (cat inc:Int):Int:=if zGv cs.length cat inc then (if rangeB cs then 0 else 802) else 800
theorem zAf {n cat inc:Int} (h:zGv n cat inc=true):(n=4∨n=15∨n=16)∧0≤cat∧cat≤3∧0≤inc∧inc≤1:=by
 unfold zGv zEo at h;rw [Bool.and_eq_true,decide_eq_true_eq,decide_eq_true_eq] at h;exact h
theorem zCP {cs:List Int} (h:rangeB cs=true) (i:Nat):-32767≤cs.getD i 0∧cs.getD i 0≤32767:=by
 unfold rangeB at h;rw [List.all_eq_true] at h
 by_cases hi:i<cs.length
 ·have h1:=h cs[i] (List.getElem_mem hi);rw [decide_eq_true_eq] at h1
  simpa [List.getD,List.getElem?_eq_getElem hi] using h1
 ·simp [List.getD,List.getElem?_eq_none (Nat.le_of_not_lt hi)]
theorem zG9 {cs:List Int} (h:∀ i,i<cs.length→-32767≤cs.getD i 0∧cs.getD i 0≤32767):rangeB cs=true:=by
 unfold rangeB;rw [List.all_eq_true];intro x hx;obtain ⟨i,hi,rfl⟩:=List.getElem_of_mem hx;have:=h i hi;rw [decide_eq_true_eq]
 simpa [List.getD,List.getElem?_eq_getElem hi] using this
theorem zAW {cs:List Int} {cat inc:Int} (h:zA0 cs cat inc=true):zGv cs.length cat inc=true∧rangeB cs=true:=by
 unfold zA0 at h
 rwa [Bool.and_eq_true] at h
theorem zDF (cs:List Int) (cat inc:Int) (h0:0≤cat) (h1:0≤inc):∀ o∈zZ cs cat inc,o.fits 256:=by
 intro o h;unfold zZ at h
 split at h
 ·rcases List.mem_append.1 h with h|h
  ·exact Zq _ _ _ _ (by omega) (by omega) (by omega) o h
  ·rcases List.mem_append.1 h with h|h
   ·exact zEr _ _ _ _ o h
   ·exact zFi _ _ _ _ o h
 ·exact Zq _ _ _ _ (by omega) (by omega) (by omega) o h
theorem zCL (cs:List Int) (cat inc:Int) (h:cs.length≤16):(zZ cs cat inc).length≤5000:=by
 have h1:=Zf 14 (2*cat+inc) 1 1;have h2:=Zf 14 (2*cat+inc) 0 1;have h3:=zDl cs (ZU cs) (cs.length-1) 0;have h4:=zEQ cs cat (ZW cs (ZU cs) 0 (cs.length-1)).reverse 0;have h5:=zCQ cs (ZU cs) (cs.length-1) 0;rw [List.length_reverse] at h4;unfold zZ
 split
 ·rw [List.length_append,List.length_append];omega
 ·omega
end Go.Proofs.YtcppbdlmcbjmeaaGreatDoor
