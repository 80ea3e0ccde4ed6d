/- Lemmas that the law needs, part 38. -/
import Derived.Test.YtcppbdlmcbjmeaaGreatDoorK17
import Derived.Test.YtcppbdlmcbjmeaaGreatDoorK30
import Derived.Test.YtcppbdlmcbjmeaaGreatDoorK37
namespace Go.Proofs.YtcppbdlmcbjmeaaGreatDoor
open Go.RowKit
def zBR (el:Int):Bool:=decide (el=1∨el=3∨el=4∨el=5∨el=6∨el=7∨el=8∨el=11∨el=12)
def zBb (el:Int):Bool:=decide (el=9∨el=10∨el=13)
def zAf (el v most:Int):List Int:=if zBR el then teN v.toNat most.toNat else if zBb el then seN v else ZW v.toNat 1
def Ask.bits:Ask→List Int
 | .elem el _ v most=>zAf el v most
 | .coefs cs _ _=>zEG cs
 | .raw v=>ZW v.toNat 8
def ZJ:List Ask→List Int
 |[]=>[]
 |a::r=>a.bits++ZJ r
def Ze (v:Int):Nat→List Deed
 |0=>[]
 |j+1=> .byp (v/2^j%2)::Ze v j
def Ask.deeds:Ask→List Deed
 | .elem el inc v most=>ZV el inc v most
 | .coefs cs cat inc=>zZ cs cat inc
 | .raw v=>Ze v 8
def zd:List Ask→List Deed
 |[]=>[]
 |a::r=>a.deeds++zd r
def Ask.fine:Ask→Prop
 | .elem el inc v most=>(el=0∨el=2∨zBR el=true∨zBb el=true)∧zAx el v most=0∧0≤inc∧inc≤7
 | .coefs cs cat inc=>zA1 cs cat inc=true
 | .raw v=>0≤v∧v≤255
theorem zDL (v:Int):∀ j,∀ o∈Ze v j,o.fits 256
 |0,o,h=>by simp [Ze] at h
 |j+1,o,h=>by
  rcases List.mem_cons.1 h with rfl|h
  ·show _=_∨_=_
   generalize v/2^j=z;omega
  ·exact zDL v j o h
theorem zCM (v:Int):∀ j,(Ze v j).length=j
 |0=>rfl
 |j+1=>by simp [Ze,zCM v j]
theorem Ask.deeds_fits (a:Ask) (h:a.fine):∀ o∈a.deeds,o.fits 256:=by
 cases a with
 |elem el inc v most=>
  have:=zCB el v most h.2.1;exact zr el inc v most this.1 this.2.1 h.2.2.1
 |coefs cs cat inc=>
  have:=zAe (zAU h).1;exact zDG cs cat inc this.2.1 this.2.2.2.1
 |raw v=>exact zDL v 8
theorem Ask.deeds_length (a:Ask) (h:a.fine):a.deeds.length≤5000:=by
 cases a with
 |elem el inc v most=>have:=Zf el inc v most;show (ZV el inc v most).length≤5000;omega
 |coefs cs cat inc=>
  have:=zAe (zAU h).1;exact zCJ cs cat inc (by omega)
 |raw v=>show (Ze v 8).length≤5000;rw [zCM];omega
theorem zCy:∀ r:List Ask,(∀ a∈r,a.fine)→∀ o∈zd r,o.fits 256
 |[],_,o,h=>by simp [zd] at h
 |a::r,hf,o,h=>by
  rcases List.mem_append.1 h with h|h
  ·exact a.deeds_fits (hf a (by simp)) o h
  ·exact zCy r (fun b hb=>hf b (by simp [hb])) o h
theorem zCE:∀ r:List Ask,(∀ a∈r,a.fine)→(zd r).length≤5000*r.length
 |[],_=>by simp [zd]
 |a::r,hf=>by
  have h1:=a.deeds_length (hf a (by simp));have h2:=zCE r (fun b hb=>hf b (by simp [hb]))
  show (a.deeds++zd r).length≤_
  rw [List.length_append,List.length_cons];omega
theorem zDw {el inc v most:Int} (h:(Ask.elem el inc v most).fine) (hs:zBR el=true):1≤most∧most≤63∧0≤v∧v≤most:=by
 have h1:=(zCB el v most h.2.1).2.2;have h2:zK el=2:=by
  simp only [zBR,decide_eq_true_eq] at hs
  rcases hs with rfl|rfl|rfl|rfl|rfl|rfl|rfl|rfl|rfl<;>rfl
 rw [h2] at h1;simp [zy] at h1;omega
theorem zC6 {el inc v most:Int} (h:(Ask.elem el inc v most).fine) (hs:zBb el=true):-32767≤v∧v≤32767:=by
 have h1:=(zCB el v most h.2.1).2.2;have h2:zK el=3:=by
  simp only [zBb,decide_eq_true_eq] at hs
  rcases hs with rfl|rfl|rfl<;>rfl
 rw [h2] at h1;simp [zy] at h1;omega
theorem zHL {el inc v most:Int} (h:(Ask.elem el inc v most).fine) (hs:zBR el=false) (hg:zBb el=false):(el=0∨el=2)∧(v=0∨v=1):=by
 have h0:el=0∨el=2:=by
  rcases h.1 with h|h|h|h
  ·exact .inl h
  ·exact .inr h
  ·rw [hs] at h;cases h
  ·rw [hg] at h;cases h
 have h1:=(zCB el v most h.2.1).2.2;have h2:zK el=1:=by rcases h0 with rfl|rfl<;>rfl
 rw [h2] at h1;simp [zy] at h1;exact ⟨h0,by omega⟩
end Go.Proofs.YtcppbdlmcbjmeaaGreatDoor
