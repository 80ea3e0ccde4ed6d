/-
  A walk over a region that draws its order in which a condition on the world need not hold behind its last store.
-/
import Derived.Test.YtcppbdlmcbjmeaaGreatDoorJ01
import Derived.Orders
import Derived.Deep.RegionHeld3
namespace Go.Proofs.YtcppbdlmcbjmeaaGreatDoor
open Go Go.RowKit

section
variable {P : Program} {ops : Array Oper} {Q : Exit → Act → World → Prop} {md : Region.Mode} {S : World → Prop} {m : Nat}

/-- Whatever order is picked; behind each operation but number m S holds. -/
def AnyL (P : Program) (md : Region.Mode) (ops : Array Oper) (Q : Exit → Act → World → Prop) (S : World → Prop) (m : Nat) : Nat → Array Bool → Act → World → Prop
  | 0, listed, a, w => Region.ready md ops listed = [] ∧ Q .normal a w
  | n + 1, listed, a, w =>
    (Region.ready md ops listed = [] → Q .normal a w) ∧
    ∀ i ∈ Region.ready md ops listed, wpOp P ops Q i (fun a' w' => (i ≠ m → S w') ∧ AnyL P md ops Q S m n (listed.setIfInBounds i true) a' w') a w

theorem AnyL.any : ∀ (n : Nat) (listed : Array Bool) (a : Act) (w : World), AnyL P md ops Q S m n listed a w → wpAny P md ops Q n listed a w
  | 0, _, _, _, h => h
  | n + 1, _, _, _, h => ⟨h.1, fun i hi => wpOp_mono (fun a' w' h' => AnyL.any n _ a' w' h'.2) (h.2 i hi)⟩

/-- A chain of operations, none listed, each waiting for i or for another of the chain. -/
def chained (md : Region.Mode) (ops : Array Oper) (listed : Array Bool) (i : Nat) (c : List Nat) : Bool :=
  c.all fun k => !listed.getD k true && k != i && ((ops[k]?).map (fun o => o.after.any fun e => Region.binds md e && (i :: c).contains e.on)).getD false

theorem chained_not {listed : Array Bool} {i j : Nat} {c : List Nat} (hc : chained md ops listed i c = true) (hi : listed.getD i true = false) (hj : j ∈ Region.ready md ops listed) : j ∉ c := fun hm => by
  have hall : ∀ k ∈ c, _ := List.all_eq_true.1 hc
  have hk := hall j hm
  obtain ⟨hjun, oj, hoj, hal⟩ := mem_ready.1 hj
  simp only [hoj, Option.map_some, Option.getD_some, Bool.and_eq_true, Array.any_eq_true'] at hk
  obtain ⟨_, e, he, hb⟩ := hk
  have hl := hal e he hb.1
  have hin : e.on ∈ i :: c := by simpa using hb.2
  have hun : ∀ k, listed.getD k true = false → listed.getD k false = false := fun k h => by
    rcases Nat.lt_or_ge k listed.size with h' | h'
    · simp [h'] at h ⊢; exact h
    · simp [Array.getElem?_eq_none h'] at h
  rcases List.mem_cons.1 hin with h | h
  · rw [h, hun i hi] at hl; cases hl
  · have := hall _ h
    simp only [Bool.and_eq_true, Bool.not_eq_true'] at this
    rw [hun _ this.1.1] at hl; cases hl
theorem chained_set {listed : Array Bool} {i j : Nat} {c : List Nat} (hc : chained md ops listed i c = true) (hj : j ∉ c) : chained md ops (listed.setIfInBounds j true) i c = true := by
  unfold chained at hc ⊢
  rw [List.all_eq_true] at hc ⊢
  intro k hk
  have := hc k hk
  have hne : j ≠ k := fun h => hj (by rw [h]; exact hk)
  rw [getD_set_ne true hne]
  exact this

theorem AnyL.first {i : Nat} {oi : Oper} {v : Value} {c : List Nat} (hi : ops[i]? = some oi) (hsel : ∀ (j : Nat) (o : Oper) cs b, ops[j]? = some o → o.op ≠ .select cs b) (hm : m ∈ c)
    (hQ : ∀ c a w, Q (.panic c) (a.put oi.dst v) w → Q (.panic c) a w) :
    ∀ (n : Nat) (listed : Array Bool) (a : Act) (w : World),
      (∀ j oj, ops[j]? = some oj → j ≠ i → listed.getD j true = false → (∀ e ∈ oj.after, Region.binds md e = true → e.on ≠ i) → oi.apart ops oj = true) →
      i ∈ Region.ready md ops listed → chained md ops listed i c = true → YieldsIf P ops S oi v a → S w →
      AnyL P md ops Q S m n (listed.setIfInBounds i true) (a.put oi.dst v) w → AnyL P md ops Q S m (n + 1) listed a w := by
  intro n
  induction n with
  | zero =>
    intro listed a w _ hr _ hy hS H
    refine ⟨fun h => (by rw [h] at hr; cases hr), fun j hj => ?_⟩
    by_cases hji : j = i
    · subst hji; exact hy.wpOp hi hS ⟨fun _ => hS, H⟩
    · have h0 := ready_mono hj hji
      rw [H.1] at h0
      cases h0
  | succ n ih =>
    intro listed a w hfree hr hch hy hS H
    refine ⟨fun h => (by rw [h] at hr; cases hr), fun j hj => ?_⟩
    by_cases hji : j = i
    · subst hji; exact hy.wpOp hi hS ⟨fun _ => hS, H⟩
    · have h1 := H.2 j (ready_mono hj hji)
      obtain ⟨hjun, oj, hoj, hall⟩ := mem_ready.1 hj
      have hnot : ∀ e ∈ oj.after, Region.binds md e = true → e.on ≠ i := fun e he hb heq => by
        have h1 := hall e he hb
        have h0 := (mem_ready.1 hr).1
        rw [heq] at h1
        rcases Nat.lt_or_ge i listed.size with h' | h'
        · simp [h'] at h0 h1; rw [h0] at h1; cases h1
        · simp [Array.getElem?_eq_none h'] at h1
      have hjc : j ∉ c := chained_not hch (mem_ready.1 hr).1 hj
      have h2 := wpOp_putIf hoj (hfree j oj hoj hji hjun hnot) (fun cs b => hsel i oi cs b hi) (fun cs b => hsel j oj cs b hoj) hQ hy h1
      have hfree' : ∀ k ok, ops[k]? = some ok → k ≠ i → (listed.setIfInBounds j true).getD k true = false →
          (∀ e ∈ ok.after, Region.binds md e = true → e.on ≠ i) → oi.apart ops ok = true := fun k ok hk hki hun hno => by
        refine hfree k ok hk hki ?_ hno
        by_cases hjk : j = k
        · subst hjk; exact hjun
        · rw [getD_set_ne true hjk] at hun; exact hun
      refine wpOp_mono (fun a' w' ⟨hy', hl, hk⟩ => ?_) h2
      have hS' := hl (fun h => hjc (h ▸ hm))
      refine ⟨fun _ => hS', ih (listed.setIfInBounds j true) a' w' hfree' (ready_mono hr (Ne.symm hji)) (chained_set hch hjc) hy' hS' ?_⟩
      rw [Array.setIfInBounds_comm _ _ hji]
      exact hk

/-- All that wait for i, at once or by others. -/
def waiters (md : Region.Mode) (ops : Array Oper) (i : Nat) : List Nat :=
  ((List.range ops.size).foldl (fun acc k => if ((ops[k]?).map (fun o => o.after.any fun e => Region.binds md e && acc.contains e.on)).getD false then acc ++ [k] else acc) [i]).tail

theorem drop_get {i : Nat} {oi : Oper} {rest : List Oper} (h : ops.toList.drop i = oi :: rest) : ops[i]? = some oi := by
  have h1 : (ops.toList.drop i)[0]? = some oi := by rw [h]; rfl
  rw [List.getElem?_drop] at h1
  simpa using h1
/-- Take number i first. -/
theorem AnyL.take (i : Nat) {oi : Oper} {rest : List Oper} {v : Value} {n : Nat} {listed : Array Bool} {a : Act} {w : World} (hi : ops.toList.drop i = oi :: rest)
    (hs : Region.noSelect ops = true) (hf : Region.free md ops listed i = true) (hr : (Region.ready md ops listed).contains i = true) (hc : ((waiters md ops i).contains m && chained md ops listed i (waiters md ops i)) = true)
    (hQ : ∀ c a w, Q (.panic c) (a.put oi.dst v) w → Q (.panic c) a w) (hS : S w) (hy : YieldsIf P ops S oi v a)
    (h : AnyL P md ops Q S m n (listed.setIfInBounds i true) (a.put oi.dst v) w) : AnyL P md ops Q S m (n + 1) listed a w := by
  rw [Bool.and_eq_true] at hc
  exact AnyL.first (drop_get hi) (Region.noSelect_spec hs) (by simpa using hc.1) hQ n listed a w (Region.free_spec (drop_get hi) hf) (by simpa using hr) hc.2 hy hS h

/-- Only number i may come up. -/
theorem AnyL.one (i : Nat) {oi : Oper} {rest : List Oper} {n : Nat} {listed : Array Bool} {a : Act} {w : World} (hr : Region.ready md ops listed = [i]) (hi : ops.toList.drop i = oi :: rest)
    (h : ∀ K : Act → World → Prop, (∀ a' w', (i ≠ m → S w') → ((i ≠ m → S w') → AnyL P md ops Q S m n (listed.setIfInBounds i true) a' w') → K a' w') →
      if Region.wanted oi (yielded ops a.tmps) = true then Oper.wp P oi a w K Q else K (a.put oi.dst undef) w) : AnyL P md ops Q S m (n + 1) listed a w := by
  refine ⟨fun h0 => (by rw [h0] at hr; cases hr), hr ▸ fun j hj => ?_⟩
  obtain rfl : j = i := by simpa using hj
  have h1 := h (fun a' w' => (j ≠ m → S w') ∧ AnyL P md ops Q S m n (listed.setIfInBounds j true) a' w') (fun a' w' hs hk => ⟨hs, hk hs⟩)
  unfold wpOp
  simp only [drop_get hi]
  split
  · rename_i hw; simp only [hw, if_true] at h1; exact .inl h1
  · rename_i hw; simp only [hw] at h1; exact h1

theorem AnyL.done {listed : Array Bool} {a : Act} {w : World} (hr : Region.ready md ops listed = []) (h : Q .normal a w) :
    ∀ n, AnyL P md ops Q S m n listed a w
  | 0 => ⟨hr, h⟩
  | _ + 1 => ⟨fun _ => h, by rw [hr]; simp⟩

theorem wp_region_L {id : Nat} {a : Act} {w : World} (hm : P.follows .mixedOrders = true) (S : World → Prop) (m : Nat)
    (h : AnyL P .any ops Q S m ops.size (Array.replicate ops.size false) a w.drew) : (Code.region id ops true).wp P Q a w :=
  wp_region_any hm (AnyL.any _ _ _ _ h)
end
end Go.Proofs.YtcppbdlmcbjmeaaGreatDoor
