/- Lemmas that the law needs, part 8. -/
import Derived.Test.YtcppbdlmcbjmeaaGreatDoorK01
import Derived.Orders
namespace Go.Proofs.YtcppbdlmcbjmeaaGreatDoor
open Go Go.RowKit
section
variable {P:Program} {ops:Array Oper} {Q:Exit→Act→World→Prop} {md:Region.Mode} {S:World→Prop} {m:Nat}
def AnyL (P:Program) (md:Region.Mode) (ops:Array Oper) (Q:Exit→Act→World→Prop) (S:World→Prop) (m:Nat):Nat→Array Bool→Act→World→Prop
 |0,listed,a,w=>Region.ready md ops listed=[]∧Q .normal a w
 |n+1,listed,a,w=>
  (Region.ready md ops listed=[]→Q .normal a w)∧
  ∀ i∈Region.ready md ops listed,wpOp P ops Q i (fun a' w'=>(i≠m→S w')∧AnyL P md ops Q S m n (listed.setIfInBounds i true) a' w') a w
theorem AnyL.any:∀ (n:Nat) (listed:Array Bool) (a:Act) (w:World),AnyL P md ops Q S m n listed a w→wpAny P md ops Q n listed a w
 |0,_,_,_,h=>h
 |n+1,_,_,_,h=>⟨h.1,fun i hi=>wpOp_mono (fun a' w' h'=>AnyL.any n _ a' w' h'.2) (h.2 i hi)⟩
def zCX (md:Region.Mode) (ops:Array Oper) (listed:Array Bool) (i:Nat) (c:List Nat):Bool:=
 c.all fun k=> !listed.getD k true&&k != i&&((ops[k]?).map (fun o=>o.after.any fun e=>Region.binds md e&&(i::c).contains e.on)).getD false
theorem zIB {listed:Array Bool} {i j:Nat} {c:List Nat} (hc:zCX md ops listed i c=true) (hi:listed.getD i true=false) (hj:j∈Region.ready md ops listed):j∉c:=fun hm=>by
 have hall:∀ k∈c,_:=List.all_eq_true.1 hc;have hk:=hall j hm;obtain ⟨hjun,oj,hoj,hal⟩:=mem_ready.1 hj;simp only [hoj,Option.map_some,Option.getD_some,Bool.and_eq_true,Array.any_eq_true'] at hk;obtain ⟨_,e,he,hb⟩:=hk;have hl:=hal e he hb.1;have hin:e.on∈i::c:=by simpa using hb.2
 have hun:∀ k,listed.getD k true=false→listed.getD k false=false:=fun k h=>by
  rcases Nat.lt_or_ge k listed.size with h'|h'
  ·simp [h'] at h ⊢;exact h
  ·simp [Array.getElem?_eq_none h'] at h
 rcases List.mem_cons.1 hin with h|h
 ·rw [h,hun i hi] at hl;cases hl
 ·have:=hall _ h;simp only [Bool.and_eq_true,Bool.not_eq_true'] at this;rw [hun _ this.1.1] at hl;cases hl
theorem zIA {listed:Array Bool} {i j:Nat} {c:List Nat} (hc:zCX md ops listed i c=true) (hj:j∉c):zCX md ops (listed.setIfInBounds j true) i c=true:=by
 unfold zCX at hc ⊢;rw [List.all_eq_true] at hc ⊢;intro k hk;have:=hc k hk;have hne:j≠k:=fun h=>hj (by rw [h];exact hk)
 rw [getD_set_ne true hne];exact this
theorem AnyL.first {i:Nat} {oi:Oper} {v:Value} {c:List Nat} (hi:ops[i]? =some oi) (hsel:∀ (j:Nat) (o:Oper) cs b,ops[j]? =some o→o.op≠ .select cs b) (hm:m∈c)
 (hQ:∀ c a w,Q (.panic c) (a.put oi.dst v) w→Q (.panic c) a w):
 ∀ (n:Nat) (listed:Array Bool) (a:Act) (w:World),
  (∀ j oj,ops[j]? =some oj→j≠i→listed.getD j true=false→(∀ e∈oj.after,Region.binds md e=true→e.on≠i)→oi.apart ops oj=true)→
  i∈Region.ready md ops listed→zCX md ops listed i c=true→YieldsIf P ops S oi v a→S w→
  AnyL P md ops Q S m n (listed.setIfInBounds i true) (a.put oi.dst v) w→AnyL P md ops Q S m (n+1) listed a w:=by
 intro n
 induction n with
 |zero=>
  intro listed a w _ hr _ hy hS H;refine ⟨fun h=>(by rw [h] at hr;cases hr),fun j hj=>?_⟩
  by_cases hji:j=i
  ·subst hji;exact hy.wpOp hi hS ⟨fun _=>hS,H⟩
  ·have h0:=ready_mono hj hji;rw [H.1] at h0
   cases h0
 |succ n ih=>
  intro listed a w hfree hr hch hy hS H;refine ⟨fun h=>(by rw [h] at hr;cases hr),fun j hj=>?_⟩
  by_cases hji:j=i
  ·subst hji;exact hy.wpOp hi hS ⟨fun _=>hS,H⟩
  ·have h1:=H.2 j (ready_mono hj hji);obtain ⟨hjun,oj,hoj,hall⟩:=mem_ready.1 hj;have hnot:∀ e∈oj.after,Region.binds md e=true→e.on≠i:=fun e he hb heq=>by
    have h1:=hall e he hb;have h0:=(mem_ready.1 hr).1;rw [heq] at h1
    rcases Nat.lt_or_ge i listed.size with h'|h'
    ·simp [h'] at h0 h1;rw [h0] at h1;cases h1
    ·simp [Array.getElem?_eq_none h'] at h1
   have hjc:j∉c:=zIB hch (mem_ready.1 hr).1 hj;have h2:=wpOp_putIf hoj (hfree j oj hoj hji hjun hnot) (fun cs b=>hsel i oi cs b hi) (fun cs b=>hsel j oj cs b hoj) hQ hy h1;have hfree':∀ k ok,ops[k]? =some ok→k≠i→(listed.setIfInBounds j true).getD k true=false→
    (∀ e∈ok.after,Region.binds md e=true→e.on≠i)→oi.apart ops ok=true:=fun k ok hk hki hun hno=>by
    refine hfree k ok hk hki ?_ hno
    by_cases hjk:j=k
    ·subst hjk;exact hjun
    ·rw [getD_set_ne true hjk] at hun;exact hun
   refine wpOp_mono (fun a' w' ⟨hy',hl,hk⟩=>?_) h2;have hS':=hl (fun h=>hjc (h▸hm));refine ⟨fun _=>hS',ih (listed.setIfInBounds j true) a' w' hfree' (ready_mono hr (Ne.symm hji)) (zIA hch hjc) hy' hS' ?_⟩;rw [Array.setIfInBounds_comm _ _ hji];exact hk
def zDa (md:Region.Mode) (ops:Array Oper) (i:Nat):List Nat:=
 ((List.range ops.size).foldl (fun acc k=>if ((ops[k]?).map (fun o=>o.after.any fun e=>Region.binds md e&&acc.contains e.on)).getD false then acc++[k] else acc) [i]).tail
theorem zEc {i:Nat} {oi:Oper} {rest:List Oper} (h:ops.toList.drop i=oi::rest):ops[i]? =some oi:=by
 have h1:(ops.toList.drop i)[0]? =some oi:=by rw [h];rfl
 rw [List.getElem?_drop] at h1
 simpa using h1
theorem AnyL.take (i:Nat) {oi:Oper} {rest:List Oper} {v:Value} {n:Nat} {listed:Array Bool} {a:Act} {w:World} (hi:ops.toList.drop i=oi::rest)
 (hs:Region.noSelect ops=true) (hf:Region.free md ops listed i=true) (hr:(Region.ready md ops listed).contains i=true) (hc:((zDa md ops i).contains m&&zCX md ops listed i (zDa md ops i))=true)
 (hQ:∀ c a w,Q (.panic c) (a.put oi.dst v) w→Q (.panic c) a w) (hS:S w) (hy:YieldsIf P ops S oi v a)
 (h:AnyL P md ops Q S m n (listed.setIfInBounds i true) (a.put oi.dst v) w):AnyL P md ops Q S m (n+1) listed a w:=by
 rw [Bool.and_eq_true] at hc;exact AnyL.first (zEc hi) (Region.noSelect_spec hs) (by simpa using hc.1) hQ n listed a w (Region.free_spec (zEc hi) hf) (by simpa using hr) hc.2 hy hS h
theorem AnyL.one (i:Nat) {oi:Oper} {rest:List Oper} {n:Nat} {listed:Array Bool} {a:Act} {w:World} (hr:Region.ready md ops listed=[i]) (hi:ops.toList.drop i=oi::rest)
 (h:∀ K:Act→World→Prop,(∀ a' w',(i≠m→S w')→((i≠m→S w')→AnyL P md ops Q S m n (listed.setIfInBounds i true) a' w')→K a' w')→
   if Region.wanted oi (yielded ops a.tmps)=true then Oper.wp P oi a w K Q else K (a.put oi.dst undef) w):AnyL P md ops Q S m (n+1) listed a w:=by
 refine ⟨fun h0=>(by rw [h0] at hr;cases hr),hr▸fun j hj=>?_⟩;obtain rfl:j=i:=by simpa using hj
 have h1:=h (fun a' w'=>(j≠m→S w')∧AnyL P md ops Q S m n (listed.setIfInBounds j true) a' w') (fun a' w' hs hk=>⟨hs,hk hs⟩);unfold wpOp;simp only [zEc hi]
 split
 ·rename_i hw;simp only [hw,if_true] at h1;exact .inl h1
 ·rename_i hw;simp only [hw] at h1;exact h1
theorem AnyL.done {listed:Array Bool} {a:Act} {w:World} (hr:Region.ready md ops listed=[]) (h:Q .normal a w):
 ∀ n,AnyL P md ops Q S m n listed a w
 |0=>⟨hr,h⟩
 |_+1=>⟨fun _=>h,by rw [hr];simp⟩
theorem zH {id:Nat} {a:Act} {w:World} (hm:P.follows .mixedOrders=true) (S:World→Prop) (m:Nat)
 (h:AnyL P .any ops Q S m ops.size (Array.replicate ops.size false) a w.drew):(Code.region id ops true).wp P Q a w:=
 wp_region_any hm (AnyL.any _ _ _ _ h)
theorem AnyL.tk (i:Nat) {oi:Oper} {rest:List Oper} {v:Value} {n:Nat} {listed:Array Bool} {a a':Act} {w:World} (hi:ops.toList.drop i=oi::rest:=by rfl)
 (hg:(Region.noSelect ops&&(Region.free md ops listed i&&((Region.ready md ops listed).contains i&&((zDa md ops i).contains m&&zCX md ops listed i (zDa md ops i)))))=true:=by kernel_rfl)
 (hw:Region.wanted oi (yielded ops a.tmps)=true:=by rfl) (hS:S w:=by assumption)
 (hv:∀ w',S w'→(execOp a.eval oi).run P w'=.ok (.value v) w':=by (intro w' hSw;(try dsimp only at hSw);go_simp;try (with_reducible rfl)))
 (hQ:∀ c a w,Q (.panic c) (a.put oi.dst v) w→Q (.panic c) a w:=by exact fun _ _ _ h=>h)
 (ha:a.put oi.dst v=a':=by ((try simp only [zpt]);with_reducible rfl))
 (h:AnyL P md ops Q S m n (listed.setIfInBounds i true) a' w):AnyL P md ops Q S m (n+1) listed a w:=by
 simp only [Bool.and_eq_true] at hg;rw [←ha] at h;exact AnyL.take i hi hg.1 hg.2.1 hg.2.2.1 (by rw [Bool.and_eq_true];exact hg.2.2.2) hQ hS (.inl ⟨hw,hv⟩) h
theorem AnyL.tl (i:Nat) {oi:Oper} {rest:List Oper} {v:Value} {n:Nat} {listed:Array Bool} {a a':Act} {w:World} (hi:ops.toList.drop i=oi::rest) (hy:YieldsIf P ops S oi v a) (h:AnyL P md ops Q S m n (listed.setIfInBounds i true) a' w)
 (hg:(Region.noSelect ops&&(Region.free md ops listed i&&((Region.ready md ops listed).contains i&&((zDa md ops i).contains m&&zCX md ops listed i (zDa md ops i)))))=true:=by kernel_rfl)
 (hS:S w:=by assumption) (hQ:∀ c a w,Q (.panic c) (a.put oi.dst v) w→Q (.panic c) a w:=by exact fun _ _ _ h=>h)
 (ha:a.put oi.dst v=a':=by ((try simp only [Act.put,List.setIfInBounds_toArray,List.set_cons_zero,List.set_cons_succ]);with_reducible rfl)):AnyL P md ops Q S m (n+1) listed a w:=by
 simp only [Bool.and_eq_true] at hg;rw [←ha] at h;exact AnyL.take i hi hg.1 hg.2.1 hg.2.2.1 (by rw [Bool.and_eq_true];exact hg.2.2.2) hQ hS hy h
theorem AnyL.on (i:Nat) {oi:Oper} {rest:List Oper} {n:Nat} {listed:Array Bool} {a:Act} {w:World} (hr:Region.ready md ops listed=[i]:=by kernel_rfl) (hi:ops.toList.drop i=oi::rest:=by rfl)
 (h:∀ K:Act→World→Prop,(∀ a' w',(i≠m→S w')→((i≠m→S w')→AnyL P md ops Q S m n (listed.setIfInBounds i true) a' w')→K a' w')→
   if Region.wanted oi (yielded ops a.tmps)=true then Oper.wp P oi a w K Q else K (a.put oi.dst undef) w):AnyL P md ops Q S m (n+1) listed a w:=AnyL.one i hr hi h
theorem AnyL.dn {listed:Array Bool} {a:Act} {w:World} {n:Nat} (hr:Region.ready md ops listed=[]:=by kernel_rfl) (h:Q .normal a w):AnyL P md ops Q S m n listed a w:=AnyL.done hr h n
end
section
variable {P:Program} {ops:Array Oper} {Q:Exit→Act→World→Prop} {md:Region.Mode} {S:World→Prop} {m:Nat}
theorem AnyL.op (i:Nat) {oi:Oper} {rest:List Oper} {n:Nat} {listed:Array Bool} {a:Act} {w:World} (hi:ops.toList.drop i=oi::rest)
 (h:∀ K:Act→World→Prop,(∀ a' w',(i≠m→S w')→((i≠m→S w')→AnyL P md ops Q S m n (listed.setIfInBounds i true) a' w')→K a' w')→
   if Region.wanted oi (yielded ops a.tmps)=true then Oper.wp P oi a w K Q else K (a.put oi.dst undef) w):
 wpOp P ops Q i (fun a' w'=>(i≠m→S w')∧AnyL P md ops Q S m n (listed.setIfInBounds i true) a' w') a w:=by
 have h1:=h (fun a' w'=>(i≠m→S w')∧AnyL P md ops Q S m n (listed.setIfInBounds i true) a' w') (fun a' w' hs hk=>⟨hs,hk hs⟩);unfold wpOp;simp only [zEc hi]
 split
 ·rename_i hw;simp only [hw,if_true] at h1;exact .inl h1
 ·rename_i hw;simp only [hw] at h1;exact h1
theorem AnyL.two (i j:Nat) {n:Nat} {listed:Array Bool} {a:Act} {w:World} (hr:Region.ready md ops listed=[i,j])
 (h1:wpOp P ops Q i (fun a' w'=>(i≠m→S w')∧AnyL P md ops Q S m n (listed.setIfInBounds i true) a' w') a w)
 (h2:wpOp P ops Q j (fun a' w'=>(j≠m→S w')∧AnyL P md ops Q S m n (listed.setIfInBounds j true) a' w') a w):AnyL P md ops Q S m (n+1) listed a w:=by
 refine ⟨fun h0=>(by rw [h0] at hr;cases hr),hr▸fun k hk=>?_⟩
 rcases List.mem_cons.1 hk with rfl|hk
 ·exact h1
 ·obtain rfl:k=j:=by simpa using hk
  exact h2
theorem AnyL.three (i j k:Nat) {n:Nat} {listed:Array Bool} {a:Act} {w:World} (hr:Region.ready md ops listed=[i,j,k])
 (h1:wpOp P ops Q i (fun a' w'=>(i≠m→S w')∧AnyL P md ops Q S m n (listed.setIfInBounds i true) a' w') a w)
 (h2:wpOp P ops Q j (fun a' w'=>(j≠m→S w')∧AnyL P md ops Q S m n (listed.setIfInBounds j true) a' w') a w)
 (h3:wpOp P ops Q k (fun a' w'=>(k≠m→S w')∧AnyL P md ops Q S m n (listed.setIfInBounds k true) a' w') a w):AnyL P md ops Q S m (n+1) listed a w:=by
 refine ⟨fun h0=>(by rw [h0] at hr;cases hr),hr▸fun l hl=>?_⟩
 rcases List.mem_cons.1 hl with rfl|hl
 ·exact h1
 ·rcases List.mem_cons.1 hl with rfl|hl
  ·exact h2
  ·obtain rfl:l=k:=by simpa using hl
   exact h3
end
end Go.Proofs.YtcppbdlmcbjmeaaGreatDoor
