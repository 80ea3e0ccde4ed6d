/- Lemmas that the law needs, part 7. -/
import Derived.Test.YtcppbdlmcbjmeaaGreatDoorCards
import Derived.Test.YtcppbdlmcbjmeaaGreatDoorTie
import Derived.Test.YtcppbdlmcbjmeaaGreatDoorJ06
import Derived.Deep.DeepHandedRow
import Derived.Deep.DeepWitnessRowRef
import Derived.Lib.LaidTab
import Derived.Stop.LaidErr
import Derived.MakeChecks
import Derived.Lay
import Derived.ProofKit
import Derived.OpenShut
import Derived.ShutString
import Derived.Carry
namespace Go.Proofs.YtcppbdlmcbjmeaaGreatDoor
open Go.RowKit
theorem own:ownKnob Tryz.prog.godebug=none:=by kernel_rfl
def laidL:List (String×DataW Unit):=[("unicode.White_Space",Rows.laid_unicode_White_Space),("strings.asciiSpace",Rows.laid_strings_asciiSpace)]
theorem asc_datum:(Rows.laid_strings_asciiSpace:DataW Unit)=Lib.tabData .u8 Lib.asciiSpaceTab:=by kernel_rfl
theorem laid_asc {W:World} (h:laidMetH Tryz.prog laidL W):Asc W:=by
 rw [MakeChecks.laidMetH_plain _ _ _ (by kernel_rfl)] at h;have h2:=laidMet.tail h;rw [asc_datum] at h2;exact Lib.tabIs_of_head (rest:=[]) (t:=261) (e:=5) (n:=256) zDZ (by kernel_rfl) (by kernel_rfl) Tryz.underlying5 (by kernel_rfl) (by kernel_rfl) h2
noncomputable def laidWorld (os:Os):World:=World.laidAll Tryz.prog os laidL
theorem laid_met (os:Os) (args:Array Value):laidMet Tryz.prog laidL ((laidWorld os).forCall (fun _ _=>0) ⟨#[],args,[]⟩).memory:=
 laidMet_laidAll _ (by kernel_rfl) (by kernel_rfl)
end Go.Proofs.YtcppbdlmcbjmeaaGreatDoor
namespace Go.Proofs.YtcppbdlmcbjmeaaGreatDoor
open Go.ChangeShapes Go.WideShapes Go.ChangeAt Go.RowKit
theorem laidOut:laidOutB Tryz.prog=true:=by kernel_rfl
theorem trodAll_later {P:Program} {H:Type} {enc:TypeId×Value→H} {W W':World} (hl:laidOutB P=true) (hb:Below W.heap.size W W'):∀ {ts:List TypeId} {vs:List Value} {ds:List (DataW H)} {ps:List MemPlace},
 (ts.all fun t=>P.readableRec t&&decide (t<P.types.size))=true→(∀ x∈ps,x.block<W.heap.size)→DataW.TrodAll enc P W 0 (fun _=>true) true ts vs ds ps→
 DataW.TrodAll enc P W' 0 (fun b=>decide (b<W.heap.size)) true ts vs ds ps:=by
 intro ts
 induction ts with
 |nil=>
  intro vs ds ps _ _ h
  cases vs<;>cases ds<;>simp_all [DataW.TrodAll]
 |cons t ts ih=>
  intro vs ds ps hr hlt h;obtain ⟨v,vs,d,ds,p,q,rfl,rfl,rfl,h1,h2⟩:=trodAll_cons h;simp only [List.all_cons,Bool.and_eq_true,decide_eq_true_eq] at hr;exact trodAll_cons_mk (Below.trod hl hr.1.1 hr.1.2 h1 hb (fun x hx=>hlt x (by simp [hx]))) (ih hr.2 (fun x hx=>hlt x (by simp [hx])) h2)
theorem post_true {H:Type} {enc:TypeId×Value→H} {P:Program} {tb:TypeId} {W W':World} {args:Array Value} {ds gs:List (DataW H)} {before:List MemPlace} (hl:laidOutB P=true) (htb:P.underlying tb=some .bool) (f:Func) (s:ChangeSpec)
 (hW:DataW.Whole enc P f.params.toList s.vars false W args.toList ds gs before) (hs:s.vars=[]) (hr:f.resultTypes=#[tb])
 (hres:(s.fn H (ds++gs)).results=[.lit (.bool true)]) (harg:(s.fn H (ds++gs)).args=ds) (hvar:(s.fn H (ds++gs)).vars=[])
 (hp:(f.params.toList.all fun t=>P.readableRec t&&decide (t<P.types.size))=true) (ho:Only [] W W'):
 s.post enc P f false true false false W args (.bool true) W':=by
 have hlt:∀ x∈before,x.block<W.heap.size:=fun x hx=>by simpa using hW.lt x hx
 obtain ⟨p,q,hA,hV,hb,hfz,hnd⟩:=id hW;rw [hs] at hV;obtain ⟨rfl,rfl⟩:=trodVars_none hV;rw [List.append_nil] at hb;subst hb;refine ⟨ds,[],before,[],before,[],hW,?_,?_,?_,ho.frame _,fun h=>by cases h⟩
 ·rw [hr,hres];exact trodAll_cons_mk (shut_bool htb _) trodAll_mk0
 ·rw [harg];exact trodAll_later hl ho.below hp hlt hA
 ·rw [hs,hvar];rfl
theorem open_intList {H:Type} {enc:TypeId×Value→H} {P:Program} {ts te:TypeId} {W:World} {r:Reach} {b0:Nat} {v:Value} {d:DataW H} {p:List MemPlace} (hts:P.underlying ts=some (.slice te)) (hte:P.underlying te=some (.int .i64)) (hce:P.cellsOf te=1)
 (hval:Value.okWide P W r b0 ts v)
 (h:DataW.Trod enc P W 0 (fun _=>true) true ts v d p):∃ xs:List Int,IntSlice W v xs∧xs.length≤maxLen∧((d=.nil∧xs=[])∨∃ sp,d=.slice (lits .i64 xs) (lits .i64 sp))∧(∀ n∈xs,(Lit.int .i64 n).wf=true)∧(∀ c,v=.slice none xs.length c→c=0):=by
 obtain ⟨a0,len0,cap0,rfl⟩:=okWide_slice hts hval;obtain ⟨n,hf⟩:=h
 rcases open_ints hts hte hce hf with ⟨hcs,hx⟩|⟨a,len,cap,zs,hcs,_,hl,hm,hz,hx,hcell,hwz⟩
 ·simp [Value.cells] at hcs;obtain ⟨rfl,rfl,rfl⟩:=hcs;simp only [Prod.mk.injEq] at hx;exact ⟨[],⟨_,_,rfl,.inl rfl⟩,by simp,.inl ⟨hx.1,rfl⟩,by simp,fun c hc=>by injection hc with _ _ hc;exact hc.symm⟩
 ·simp [Value.cells] at hcs;obtain ⟨rfl,rfl,rfl⟩:=hcs;simp only [Prod.mk.injEq] at hx;have hz2:zs.length=cap0:=by simpa using hz
  have hlen:(zs.take len0).length=len0:=by rw [List.length_take];omega
  refine ⟨zs.take len0,⟨some a,cap0,by rw [hlen],?_⟩,by rw [hlen];omega,.inr ⟨_,hx.1⟩,fun n hn=>hwz n (List.mem_of_mem_take hn),fun c hc=>by injection hc with hc;cases hc⟩
  by_cases h0:len0=0
  ·left
   exact List.eq_nil_of_length_eq_zero (by omega)
  ·right
   have hsp:=World.cell?_spot (hcell 0 (by omega));have hspot:a.spot=none:=by
    unfold Addr.add at hsp
    split at hsp<;>simp_all
   obtain ⟨g,off,sp⟩:=a;simp only at hspot;subst hspot;refine ⟨g,off,rfl,fun i hi=>?_⟩;have:=hcell i (by omega);rw [add_plain] at this;rw [this];simp only [List.getD];rw [List.getElem?_take_of_lt (by omega)]
end Go.Proofs.YtcppbdlmcbjmeaaGreatDoor
