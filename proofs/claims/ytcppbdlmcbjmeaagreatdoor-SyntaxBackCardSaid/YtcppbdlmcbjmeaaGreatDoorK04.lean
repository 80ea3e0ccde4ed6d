/- Lemmas that the law needs, part 4. -/
import Derived.Test.YtcppbdlmcbjmeaaGreatDoorK03
namespace Go.Proofs.YtcppbdlmcbjmeaaGreatDoor
def zc (c:Int):Prop:=c=48∨c=49∨c=97∨c=98
theorem zH0 (x i:Nat):∀ c∈zJV x i,zc c:=by
 induction i with
 |zero=>intro c h;cases h
 |succ i ih=>
  intro c h;simp only [zJV,List.mem_cons] at h
  rcases h with rfl|h
  ·unfold zc;omega
  ·exact ih c h
theorem zGx (f x k:Nat):∀ c∈zBo f x k,zc c:=by
 induction f generalizing x k with
 |zero=>intro c h;cases h
 |succ f ih=>
  intro c h;unfold zBo at h
  split at h
  ·rcases List.mem_cons.1 h with rfl|h
   ·unfold zc;omega
   ·exact ih _ _ c h
  ·rcases List.mem_cons.1 h with rfl|h
   ·unfold zc;omega
   ·exact zH0 _ _ c h
theorem zEC (n l:Nat):∀ c∈zAj n l,zc c:=by
 intro c h;unfold zAj at h
 rcases List.mem_append.1 h with h|h
 ·obtain ⟨_,rfl⟩:=List.mem_replicate.1 h;unfold zc;omega
 ·split at h
  ·simp at h;subst h;unfold zc;omega
  ·cases h
theorem zDS (v o k:Nat):∀ c∈Zk v o k,zc c:=by
 intro c h;unfold Zk at h
 rcases List.mem_append.1 h with h|h
 ·exact zEC _ _ c h
 ·split at h
  ·exact zGx _ _ _ c h
  ·cases h
theorem zG0 (v:Int):∀ c∈zCp v,zc c:=by
 intro c h;unfold zCp at h
 split at h
 ·simp at h;subst h;unfold zc;omega
 ·split at h
  ·simp at h;subst h;unfold zc;omega
  ·cases h
theorem zCY (el v most:Int):∀ c∈zCs el v most,zc c:=by
 intro c h;unfold zCs at h
 split at h
 ·rename_i hm;unfold zG2 at h
  split at h
  ·rename_i hk;rw [hk] at hm;simp only [zy,if_true,decide_eq_true_eq] at hm;simp at h;subst h;unfold zc;omega
  ·split at h
   ·exact zEC _ _ c h
   ·split at h
    ·rcases List.mem_append.1 h with h|h
     ·exact zDS _ _ _ c h
     ·exact zG0 _ c h
    ·exact zDS _ _ _ c h
 ·cases h
theorem zEO (el v most:Int):(zCs el v most).length≤100:=by
 unfold zCs
 split
 ·rename_i hm;unfold zG2
  split
  ·simp
  ·rename_i h1
   split
   ·rename_i h2;rw [h2] at hm;simp only [zy,show ¬ ((2:Int)=1) by omega,if_false,if_true,decide_eq_true_eq] at hm;rw [zED _ _ (by omega)];omega
   ·split
    ·rw [List.length_append];have h3:=zA6 v.natAbs 9 3;have h4:(zCp v).length≤1:=by unfold zCp;split;simp;split<;>simp
     omega
    ·have h3:=zA6 v.natAbs 14 0;omega
 ·simp
def zz (el inc:Int) (n:Nat):Int:=8*el+min (inc+n) 7
def Enc.letter (e:Enc) (el inc:Int) (n:Nat) (c:Int):Bool×Enc×Nat:=
 if 97≤c then (e.may (c-97),e.bypass (c-97),n) else (e.canBin (zz el inc n) (c-48),e.bin (zz el inc n) (c-48),n+1)
def Enc.letters (el inc:Int):Enc→Nat→List Int→Bool×Enc
 |e,_,[]=>(true,e)
 |e,n,c::cs=>if (e.letter el inc n c).1 then Enc.letters el inc (e.letter el inc n c).2.1 (e.letter el inc n c).2.2 cs else (false,(e.letter el inc n c).2.1)
def zJw (ok:Bool):Int:=if ok then 0 else 601
def Enc.elem (e:Enc) (el inc v most:Int):Int×Enc:=
 if zAx el v most=0∧0≤inc∧inc≤7 then (zJw (Enc.letters el inc e 0 (zCs el v most)).1,(Enc.letters el inc e 0 (zCs el v most)).2) else (600,e)
def zEM (el inc:Int) (n:Nat) (c:Int):Deed:=if 97≤c then .byp (c-97) else .bin (zz el inc n).toNat (c-48)
def Zm (el inc:Int):Nat→List Int→List Deed
 |_,[]=>[]
 |n,c::cs=>zEM el inc n c::Zm el inc (if 97≤c then n else n+1) cs
theorem zGl (el inc:Int) (cs:List Int):∀ n,(Zm el inc n cs).length=cs.length:=by
 induction cs with
 |nil=>intro n;rfl
 |cons c cs ih=>intro n;simp [Zm,ih]
theorem zB8 (el inc:Int) (n:Nat) (h0:0≤el) (h1:el≤19) (h2:0≤inc):0≤zz el inc n∧zz el inc n<160:=by unfold zz;omega
theorem zFL (el inc:Int) (cs:List Int) (h0:0≤el) (h1:el≤19) (h2:0≤inc):∀ n,(∀ c∈cs,zc c)→∀ o∈Zm el inc n cs,o.fits 256:=by
 induction cs with
 |nil=>intro n _ o h;cases h
 |cons c cs ih=>
  intro n hc o h;simp only [Zm,List.mem_cons] at h
  rcases h with rfl|h
  ·have hl:=hc c (by simp);unfold zEM;unfold zc at hl
   split
   ·show c-97=0∨c-97=1;omega
   ·have:=zB8 el inc n h0 h1 h2;exact ⟨by omega,by omega⟩
  ·exact ih _ (fun c hc'=>hc c (by simp [hc'])) o h
theorem Enc.letters_live (el inc:Int) (h0:0≤el) (h1:el≤19) (h2:0≤inc) (cs:List Int):∀ (e:Enc) (n:Nat),e.Live→e.st.length=256→(∀ c∈cs,zc c)→Enc.letters el inc e n cs=(true,e.run (Zm el inc n cs)):=by
 induction cs with
 |nil=>intro e n _ _ _;rfl
 |cons c cs ih=>
  intro e n hl hst hc;have hcl:=hc c (by simp);have hf:(zEM el inc n c).fits e.st.length:=by
   rw [hst];exact zFL el inc (c::cs) h0 h1 h2 n hc _ (by simp [Zm])
  obtain ⟨l1,l2,-,-⟩:=e.live_deed _ hl hf;have key:e.letter el inc n c=(true,e.deed (zEM el inc n c),if 97≤c then n else n+1):=by
   unfold zc at hcl;have hov:e.over=false:=hl.going;unfold Enc.letter zEM
   split
   ·have:e.may (c-97)=true:=by
     unfold Enc.may;rw [hov];simp;omega
    rw [this]
    rfl
   ·have hr:=zB8 el inc n h0 h1 h2;have:e.canBin (zz el inc n) (c-48)=true:=by
     unfold Enc.canBin Enc.may;rw [hov,hst];simp;omega
    rw [this];simp only [Enc.deed];rw [Int.toNat_of_nonneg hr.1]
  unfold Enc.letters;rw [key];simp only [if_true];rw [ih _ _ l1 (by rw [l2,hst]) (fun c hc'=>hc c (by simp [hc']))]
  rfl
theorem zBJ (el:Int) (h:zK el≠0):0≤el∧el≤19:=by
 unfold zK at h
 split at h
 ·exact absurd rfl h
 ·refine ⟨by omega,?_⟩
  rcases Nat.lt_or_ge el.toNat 20 with g|g
  ·omega
  ·have:kindTab[el.toNat]? =none:=List.getElem?_eq_none (by simpa [kindTab] using g);simp [List.getD,this] at h
theorem zCB (el v most:Int) (h:zAx el v most=0):0≤el∧el≤19∧zy (zK el) v most=true:=by
 unfold zAx at h
 split at h
 ·rename_i hm;have hk:zK el≠0:=by
   intro hk;rw [hk] at hm
   revert hm
   simp [zy]
  have:=zBJ el hk;exact ⟨this.1,this.2,hm⟩
 ·omega
def ZV (el inc v most:Int):List Deed:=Zm el inc 0 (zCs el v most)
theorem Enc.elem_live (e:Enc) (el inc v most:Int) (h:e.Live) (hst:e.st.length=256):
 e.elem el inc v most=if zAx el v most=0∧0≤inc∧inc≤7 then (0,e.run (ZV el inc v most)) else (600,e):=by
 unfold Enc.elem
 split
 ·rename_i hc;obtain ⟨h0,h1,-⟩:=zCB el v most hc.1;rw [Enc.letters_live el inc h0 h1 hc.2.1 _ e 0 h hst (zCY el v most)]
  rfl
 ·rfl
def Dec.gives:Dec→List Deed→Dec→Prop
 |d,[],d'=>d'=d
 |d,o::os,d'=>∃ d1,d.deed o=(o.bit,0,d1)∧d1.s=d.s∧Dec.gives d1 os d'
theorem Dec.gives_s (os:List Deed):∀ d d':Dec,d.gives os d'→d'.s=d.s:=by
 induction os with
 |nil=>intro d d' h;rw [show d'=d from h]
 |cons o os ih=>
  intro d d' h;obtain ⟨d1,-,h2,h3⟩:=h;exact (ih d1 d' h3).trans h2
theorem Dec.gives_append (a b:List Deed):∀ d d':Dec,d.gives (a++b) d'→∃ d1,d.gives a d1∧d1.gives b d':=by
 induction a with
 |nil=>intro d d' h;exact ⟨d,rfl,h⟩
 |cons o a ih=>
  intro d d' h;obtain ⟨d1,h1,h2,h3⟩:=h;obtain ⟨d2,g1,g2⟩:=ih d1 d' h3;exact ⟨d2,⟨d1,h1,h2,g1⟩,g2⟩
theorem Read.gives (xs:List Int) (ops os:List Deed) (hf:∀ o∈ops,o.fits xs.length):∀ (j:Nat) (d:Dec) (rest:List Deed),Read xs ops j d→ops.drop j=os++rest→∃ d',d.gives os d'∧Read xs ops (j+os.length) d':=by
 induction os with
 |nil=>intro j d rest h _;exact ⟨d,rfl,h⟩
 |cons o os ih=>
  intro j d rest h hd;have ho:ops[j]? =some o:=by
   have:=congrArg (fun l=>l[0]?) hd
   simpa using this
  obtain ⟨d1,h1,h2⟩:=Read.step xs ops j d hf h o ho;have hd2:ops.drop (j+1)=os++rest:=by
   have:=congrArg (fun l=>l.drop 1) hd
   simpa [List.drop_drop] using this
  obtain ⟨d',g1,g2⟩:=ih (j+1) d1 rest h2 hd2;refine ⟨d',⟨d1,h1,h2.text.trans h.text.symm,g1⟩,?_⟩;rw [List.length_cons,show j+(os.length+1)=j+1+os.length by omega];exact g2
theorem zI2 (v l:Nat):zAj (v+1) (l+1)=49::zAj v l:=by
 unfold zAj
 by_cases h:v<l
 ·rw [if_pos h,if_pos (by omega)];simp [List.replicate_succ]
 ·rw [if_neg h,if_neg (by omega)];simp [List.replicate_succ]
theorem zHJ {d d':Dec} {el inc:Int} {n:Nat} {cs:List Int} (hr:0≤zz el inc n) (h:d.gives (Zm el inc n (49::cs)) d'):
 ∃ d1,d.bin (zz el inc n)=(1,0,d1)∧d1.s=d.s∧d1.gives (Zm el inc (n+1) cs) d':=by
 obtain ⟨d1,h1,h2,h3⟩:=h;refine ⟨d1,?_,h2,h3⟩;have:=h1;simp only [zEM,show ¬ ((97:Int)≤49) by omega,if_false,Dec.deed,Deed.bit] at this;rw [Int.toNat_of_nonneg hr] at this;exact this
theorem zEK {d d':Dec} {el inc:Int} {n:Nat} {cs:List Int} (hr:0≤zz el inc n) (h:d.gives (Zm el inc n (48::cs)) d'):
 ∃ d1,d.bin (zz el inc n)=(0,0,d1)∧d1.s=d.s∧d1.gives (Zm el inc (n+1) cs) d':=by
 obtain ⟨d1,h1,h2,h3⟩:=h;refine ⟨d1,?_,h2,h3⟩;have:=h1;simp only [zEM,show ¬ ((97:Int)≤48) by omega,if_false,Dec.deed,Deed.bit] at this;rw [Int.toNat_of_nonneg hr] at this;exact this
theorem zJF {d d':Dec} {el inc:Int} {n:Nat} {v:Int} {cs:List Int} (hv:v=0∨v=1) (hr:0≤zz el inc n) (h:d.gives (Zm el inc n ((48+v)::cs)) d'):
 ∃ d1,d.bin (zz el inc n)=(v,0,d1)∧d1.s=d.s∧d1.gives (Zm el inc (n+1) cs) d':=by
 rcases hv with rfl|rfl
 ·exact zEK hr h
 ·exact zHJ hr h
theorem zDT {d d':Dec} {el inc:Int} {n:Nat} {c:Int} {cs:List Int} (hc:97≤c) (h:d.gives (Zm el inc n (c::cs)) d'):
 ∃ d1,d.bypass=(c-97,0,d1)∧d1.s=d.s∧d1.gives (Zm el inc n cs) d':=by
 obtain ⟨d1,h1,h2,h3⟩:=h;refine ⟨d1,?_,h2,?_⟩
 ·have:=h1;simp only [zEM,hc,if_true,Dec.deed,Deed.bit] at this;exact this
 ·simpa only [hc,if_true] using h3
theorem zKC (x i:Nat):x%2^(i+1)=x/2^i%2*2^i+x%2^i:=by
 have h1:x%2^(i+1)=x%(2^i*2):=by rw [Nat.pow_succ]
 rw [h1,Nat.mod_mul,Nat.mul_comm,Nat.add_comm]
def Zi (b:Bool):Int:=if b then 1 else 0
theorem zDv (b:Bool):Zi b=0∨Zi b=1:=by cases b<;>simp [Zi]
def zAC (cs:List Int):Nat→Int
 |0=>-1
 |k+1=>if cs.getD k 0≠0 then (k:Int) else zAC cs k
def zU (cs:List Int):Int:=zAC cs cs.length
theorem zCT (cs:List Int) (k:Nat):-1≤zAC cs k∧zAC cs k<k:=by
 induction k with
 |zero=>simp [zAC]
 |succ k ih=>unfold zAC;split<;>omega
theorem zHH (cs:List Int) (k p:Nat) (hp:p<k) (h:cs.getD p 0≠0):(p:Int)≤zAC cs k:=by
 induction k with
 |zero=>omega
 |succ k ih=>
  unfold zAC
  split
  ·omega
  ·rename_i hk
   rcases Nat.lt_or_ge p k with hlt|hge
   ·exact ih hlt
   ·obtain rfl:p=k:=by omega
    exact absurd h hk
theorem zE6 (cs:List Int) (k:Nat) (h:0≤zAC cs k):cs.getD (zAC cs k).toNat 0≠0:=by
 induction k with
 |zero=>simp [zAC] at h
 |succ k ih=>
  unfold zAC at h ⊢
  split
  ·rename_i hk;simpa using hk
  ·rename_i hk;rw [if_neg hk] at h;exact ih h
def zDF (cs:List Int):Nat→Bool
 |0=>false
 |k+1=>zDF cs k||decide (cs.getD k 0≠0)
theorem zHn (cs:List Int) (k:Nat):zDF cs k=decide (0≤zAC cs k):=by
 induction k with
 |zero=>simp [zDF,zAC]
 |succ k ih=>
  unfold zDF zAC;rw [ih]
  by_cases h:cs.getD k 0≠0
  ·rw [if_pos h,decide_eq_true h,Bool.or_true];exact (decide_eq_true (by omega)).symm
  ·rw [if_neg h,decide_eq_false h,Bool.or_false]
def zC5 (i:Nat):Int:=min ((i:Int)/2) 7
def zj (cs:List Int) (last:Int):Nat→Nat→List Deed
 |_,0=>[]
 |i,m+1=>if cs.getD i 0=0 then ZV 15 (zC5 i) 0 1++zj cs last (i+1) m
  else ZV 15 (zC5 i) 1 1++(ZV 16 (zC5 i) (Zi (decide ((i:Int)=last))) 1++(if (i:Int)=last then [] else zj cs last (i+1) m))
def zW (cs:List Int) (last:Int):Nat→Nat→List Nat
 |i,0=>[i]
 |i,m+1=>if cs.getD i 0=0 then zW cs last (i+1) m else i::(if (i:Int)=last then [] else zW cs last (i+1) m)
theorem zG9 (cs:List Int) (last:Int) (m:Nat):∀ i,i+m+1=cs.length→last=zU cs→(i:Int)≤last→
 (∀ p∈zW cs last i m,i≤p∧p<cs.length∧cs.getD p 0≠0)∧(∀ p,i≤p→p<cs.length→cs.getD p 0≠0→p∈zW cs last i m):=by
 induction m with
 |zero=>
  intro i hi hl hle;have hr:=zCT cs cs.length;have h1:last=(i:Int):=by unfold zU at hl;omega
  have h2:=zE6 cs cs.length (by unfold zU at hl;omega);have h3:(zAC cs cs.length).toNat=i:=by unfold zU at hl;omega
  rw [h3] at h2;unfold zW
  constructor
  ·intro p hp;simp at hp;subst hp;exact ⟨Nat.le_refl _,by omega,h2⟩
  ·intro p h4 h5 _;simp;omega
 |succ m ih=>
  intro i hi hl hle;have hlt:=zE6 cs cs.length (by unfold zU at hl;omega);unfold zW
  split
  ·rename_i h0;have hne:(i:Int)≠last:=by
    intro he
    apply hlt
    have:(zAC cs cs.length).toNat=i:=by unfold zU at hl;omega
    rw [this];exact h0
   obtain ⟨a,b⟩:=ih (i+1) (by omega) hl (by omega)
   constructor
   ·intro p hp;obtain ⟨q1,q2,q3⟩:=a p hp;exact ⟨by omega,q2,q3⟩
   ·intro p h4 h5 h6
    rcases Nat.lt_or_ge i p with h|h
    ·exact b p (by omega) h5 h6
    ·obtain rfl:p=i:=by omega
     exact absurd h0 h6
  ·rename_i h0
   by_cases he:(i:Int)=last
   ·rw [if_pos he]
    constructor
    ·intro p hp;simp at hp;subst hp;exact ⟨Nat.le_refl _,by omega,h0⟩
    ·intro p h4 h5 h6;have:=zHH cs cs.length p h5 h6;simp;unfold zU at hl;omega
   ·rw [if_neg he];obtain ⟨a,b⟩:=ih (i+1) (by omega) hl (by omega)
    constructor
    ·intro p hp
     rcases List.mem_cons.1 hp with rfl|hp
     ·exact ⟨Nat.le_refl _,by omega,h0⟩
     ·obtain ⟨q1,q2,q3⟩:=a p hp;exact ⟨by omega,q2,q3⟩
    ·intro p h4 h5 h6
     rcases Nat.lt_or_ge i p with h|h
     ·exact List.mem_cons_of_mem _ (b p (by omega) h5 h6)
     ·obtain rfl:p=i:=by omega
      simp
theorem zCO (cs:List Int) (last:Int) (m:Nat):∀ i,(zW cs last i m).length≤m+1:=by
 induction m with
 |zero=>intro i;simp [zW]
 |succ m ih=>
  intro i;unfold zW;have:=ih (i+1)
  split
  ·omega
  ·rw [List.length_cons]
   split
   ·simp
   ·omega
theorem zG8 (cs:List Int) (last:Int) (m:Nat):∀ i,0<(zW cs last i m).length:=by
 induction m with
 |zero=>intro i;simp [zW]
 |succ m ih=>
  intro i;unfold zW
  split
  ·exact ih (i+1)
  ·simp
def zG3 (cat:Int) (g:Nat):Int:=min 5 (g:Int)+Zi (decide (1<cat))
def zAM (cs:List Int) (cat:Int):List Nat→Nat→List Deed
 |[],_=>[]
 |p::ps,g=>ZV 17 (zG3 cat g) ((cs.getD p 0).natAbs-1:Int) 1++(Deed.byp (Zi (decide (cs.getD p 0<0)))::zAM cs cat ps (if 1<(cs.getD p 0).natAbs then g+1 else g))
def zZ (cs:List Int) (cat inc:Int):List Deed:=
 if 0≤zU cs then ZV 14 (2*cat+inc) 1 1++(zj cs (zU cs) 0 (cs.length-1)++zAM cs cat (zW cs (zU cs) 0 (cs.length-1)).reverse 0)
 else ZV 14 (2*cat+inc) 0 1
theorem zr (el inc v most:Int) (h0:0≤el) (h1:el≤19) (h2:0≤inc):∀ o∈ZV el inc v most,o.fits 256:=zFL el inc _ h0 h1 h2 0 (zCY el v most)
theorem Zf (el inc v most:Int):(ZV el inc v most).length≤100:=by
 unfold ZV;rw [zGl];exact zEO el v most
theorem zLk (b:Bool):(Deed.byp (Zi b)).fits 256:=zDv b
theorem zIz (cat:Int) (g:Nat):0≤zG3 cat g:=by
 unfold zG3;have:=zDv (decide (1<cat));omega
theorem zKL (i:Nat):0≤zC5 i:=by unfold zC5;omega
theorem zEs (cs:List Int) (last:Int) (m:Nat):∀ i,∀ o∈zj cs last i m,o.fits 256:=by
 induction m with
 |zero=>intro i o h;cases h
 |succ m ih=>
  intro i o h;have hi:=zKL i;unfold zj at h
  split at h
  ·rcases List.mem_append.1 h with h|h
   ·exact zr _ _ _ _ (by omega) (by omega) hi o h
   ·exact ih _ o h
  ·rcases List.mem_append.1 h with h|h
   ·exact zr _ _ _ _ (by omega) (by omega) hi o h
   ·rcases List.mem_append.1 h with h|h
    ·exact zr _ _ _ _ (by omega) (by omega) hi o h
    ·split at h
     ·cases h
     ·exact ih _ o h
theorem zDk (cs:List Int) (last:Int) (m:Nat):∀ i,(zj cs last i m).length≤200*m:=by
 induction m with
 |zero=>intro i;simp [zj]
 |succ m ih=>
  intro i;have h1:=Zf 15 (zC5 i) 0 1;have h2:=Zf 15 (zC5 i) 1 1;have h3:=Zf 16 (zC5 i) (Zi (decide ((i:Int)=last))) 1;have h4:=ih (i+1);unfold zj
  split
  ·rw [List.length_append];omega
  ·rw [List.length_append,List.length_append]
   split
   ·simp;omega
   ·omega
theorem zFi (cs:List Int) (cat:Int) (P:List Nat):∀ g,∀ o∈zAM cs cat P g,o.fits 256:=by
 induction P with
 |nil=>intro g o h;cases h
 |cons p P ih=>
  intro g o h;unfold zAM at h
  rcases List.mem_append.1 h with h|h
  ·exact zr _ _ _ _ (by omega) (by omega) (zIz cat g) o h
  ·rcases List.mem_cons.1 h with rfl|h
   ·exact zLk _
   ·exact ih _ o h
theorem zER (cs:List Int) (cat:Int) (P:List Nat):∀ g,(zAM cs cat P g).length≤101*P.length:=by
 induction P with
 |nil=>intro g;simp [zAM]
 |cons p P ih=>
  intro g;have h1:=Zf 17 (zG3 cat g) ((cs.getD p 0).natAbs-1:Int) 1;have h2:=ih (if 1<(cs.getD p 0).natAbs then g+1 else g);unfold zAM;rw [List.length_append,List.length_cons,List.length_cons];omega
def zEp (n:Int):Bool:=decide (n=4∨n=15∨n=16)
def zGr (n cat inc:Int):Bool:=zEp n&&decide (0≤cat∧cat≤3∧0≤inc∧inc≤1)
def zE2 (ok:Bool):Int:=if ok then 0 else 800
def rangeB (cs:List Int):Bool:=cs.all fun x=>decide (-32767≤x∧x≤32767)
def zA1 (cs:List Int) (cat inc:Int):Bool:=zGr cs.length cat inc&&rangeB cs
def zKj (cs:List Int) (cat inc:Int):Int:=if zGr cs.length cat inc then (if rangeB cs then 0 else 802) else 800
theorem zAe {n cat inc:Int} (h:zGr n cat inc=true):(n=4∨n=15∨n=16)∧0≤cat∧cat≤3∧0≤inc∧inc≤1:=by
 unfold zGr zEp at h;rw [Bool.and_eq_true,decide_eq_true_eq,decide_eq_true_eq] at h;exact h
theorem zCN {cs:List Int} (h:rangeB cs=true) (i:Nat):-32767≤cs.getD i 0∧cs.getD i 0≤32767:=by
 unfold rangeB at h;rw [List.all_eq_true] at h
 by_cases hi:i<cs.length
 ·have h1:=h cs[i] (List.getElem_mem hi);rw [decide_eq_true_eq] at h1
  simpa [List.getD,List.getElem?_eq_getElem hi] using h1
 ·simp [List.getD,List.getElem?_eq_none (Nat.le_of_not_lt hi)]
theorem zG4 {cs:List Int} (h:∀ i,i<cs.length→-32767≤cs.getD i 0∧cs.getD i 0≤32767):rangeB cs=true:=by
 unfold rangeB;rw [List.all_eq_true];intro x hx;obtain ⟨i,hi,rfl⟩:=List.getElem_of_mem hx;have:=h i hi;rw [decide_eq_true_eq]
 simpa [List.getD,List.getElem?_eq_getElem hi] using this
theorem zAU {cs:List Int} {cat inc:Int} (h:zA1 cs cat inc=true):zGr cs.length cat inc=true∧rangeB cs=true:=by
 unfold zA1 at h
 rwa [Bool.and_eq_true] at h
theorem zDG (cs:List Int) (cat inc:Int) (h0:0≤cat) (h1:0≤inc):∀ o∈zZ cs cat inc,o.fits 256:=by
 intro o h;unfold zZ at h
 split at h
 ·rcases List.mem_append.1 h with h|h
  ·exact zr _ _ _ _ (by omega) (by omega) (by omega) o h
  ·rcases List.mem_append.1 h with h|h
   ·exact zEs _ _ _ _ o h
   ·exact zFi _ _ _ _ o h
 ·exact zr _ _ _ _ (by omega) (by omega) (by omega) o h
theorem zCJ (cs:List Int) (cat inc:Int) (h:cs.length≤16):(zZ cs cat inc).length≤5000:=by
 have h1:=Zf 14 (2*cat+inc) 1 1;have h2:=Zf 14 (2*cat+inc) 0 1;have h3:=zDk cs (zU cs) (cs.length-1) 0;have h4:=zER cs cat (zW cs (zU cs) 0 (cs.length-1)).reverse 0;have h5:=zCO cs (zU cs) (cs.length-1) 0;rw [List.length_reverse] at h4;unfold zZ
 split
 ·rw [List.length_append,List.length_append];omega
 ·omega
end Go.Proofs.YtcppbdlmcbjmeaaGreatDoor
