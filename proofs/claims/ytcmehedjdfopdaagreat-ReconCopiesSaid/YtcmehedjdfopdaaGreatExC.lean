/-
  A runner of the model's code inside Lean, with the proof that it is right: memory: make, load, store, append, copy, strings. Nothing here is of this program.
-/
import Derived.Test.YtcmehedjdfopdaaGreatExB
import Derived.Deep.Upon
import Derived.Laws.BytesString
import Derived.Laws.Concat
namespace Go.Exec
open Go
variable {P : Program} {N : Nat} {ρ : Nat → Int} {H : Hy}
/-- An operation that makes a new block and touches nothing else. -/
def AllocOk (P : Program) (N : Nat) (o : Op) (c : OpC) : Prop :=
  ∀ call A S v S', c.f call A S = .ok v S' → ∃ z e cs, S.next < 32768 ∧ z ≤ 32768 ∧ S' = ⟨(updH S.next).f ⟨z, e, cs⟩ S.heap, S.next + 1, S.ds⟩ ∧
    (∀ call2 S2, S2.next = S.next → c.f call2 A S2 = .ok v ⟨(updH S.next).f ⟨z, e, cs⟩ S2.heap, S.next + 1, S2.ds⟩) ∧
    ∀ η a w (ob : Oper), ob.op = o → (∀ x ∈ o.operands.toList, OR η N A a x) → ∃ y cells k, (execOp a.eval ob).run P w = .ok (.value y) (w.alloc (.cells cells e)) ∧ cells.size = k * sizeT P e ∧ z ≤ cells.size ∧ CR η cs cells ∧
      ∀ ζ : Nv, ζ.σ S.next = some w.heap.size → ζ.κ S.next = k → VR ζ v y
theorem alloc_bad {o : Op} : AllocOk P N o bad := fun _ _ _ _ _ h => by cases h
theorem newB_ok {S : St} {size elem : Nat} {cs : Cells} {K : Nat → St → Ans} {v : V} {S' : St} (h : newB S size elem cs K = .ok v S') : size ≤ 32768 ∧ S.next < 32768 ∧ K S.next ⟨(updH S.next).f ⟨size, elem, cs⟩ S.heap, S.next + 1, S.ds⟩ = .ok v S' ∧
    ∀ S2 : St, S2.next = S.next → ∀ K', newB S2 size elem cs K' = K' S.next ⟨(updH S.next).f ⟨size, elem, cs⟩ S2.heap, S.next + 1, S2.ds⟩ := by
  obtain ⟨h1, h2⟩ := chk_ok h
  obtain ⟨h3, h4⟩ := and_ok h1
  refine ⟨ble_ok h3, blt_ok h4, h2, fun S2 hs K' => ?_⟩
  unfold newB
  rw [hs, h1]
  rfl
theorem cellsOf_one {v : V} (h : v.s.tag ≤ 97) : cellsOf v = one v.s := by
  unfold cellsOf
  have : Nat.beq v.s.tag 98 = false := by rw [Bool.eq_false_iff]; intro e; have := beq_ok e; omega
  rw [this]
theorem cellsOf_agg {v : V} (h : v.s.tag = 98) : cellsOf v = v.cs := by
  unfold cellsOf
  rw [h]; rfl
/-- A value that fits its type, as cells. -/
theorem fits_cells {η : Nv} {t : TypeId} {v : V} {x : Value} (hv : VR η v x) (h : (fits P t).f v = true) (h1 : isAggT P t = false → sizeT P t = 1) : x.cells.size = sizeT P t ∧ CR η (cellsOf v) x.cells := by
  cases ha : isAggT P t with
  | true =>
    obtain ⟨ht, hs⟩ := fits_agg ha h
    obtain ⟨cs, rfl, hc, _, hr⟩ := hv.asAgg ht
    rw [cellsOf_agg ht]
    exact ⟨by rw [← hs, hc]; rfl, hr⟩
  | false =>
    have ht := fits_one ha h
    have hs := hv.asSc ht
    have hone := hs.one
    have hc : x.cells = #[x] := by cases x <;> first | rfl | (simp [Value.oneCell'] at hone)
    rw [cellsOf_one ht, hc]
    refine ⟨by rw [h1 ha]; rfl, fun i y hy => ?_⟩
    have : i = 0 := by
      rcases Nat.lt_or_ge i 1 with h | h
      · omega
      · rw [Array.getElem?_eq_none (by simpa using h)] at hy; cases hy
    subst this
    simp at hy; subst hy
    exact hs
theorem alloc_ok {e : TypeId} : AllocOk P N (.alloc e) (allocC P e) := by
  unfold allocC
  split
  · rename_i z hz
    cases hb : Bool.and (unit P e) ((fits P e).f z) with
    | false => exact alloc_bad
    | true =>
      obtain ⟨hu, hf⟩ := and_ok hb
      obtain ⟨i, v0, hi, hv0, hl⟩ := zeroT_ok hz
      intro call A S v S' h
      simp only at h ⊢
      obtain ⟨h1, h2, h3, h4⟩ := newB_ok h
      cases h3
      refine ⟨_, _, _, h2, h1, rfl, fun _ S2 hS => h4 S2 hS _, fun η a w ob ho hop => ?_⟩
      obtain ⟨hs, hc⟩ := fits_cells (P := P) (VR.of_lift (η := η) hl) hf (unit_ok hu)
      refine ⟨.pointer (some ⟨w.heap.size, 0, none⟩), v0.cells, 1, ?_, by rw [hs, Nat.one_mul], by rw [hs]; exact Nat.le_refl _, hc, fun ζ hσ _ => VR.ptr 0 (.inl hσ)⟩
      have hzero := run_zero (P := P) hi hv0 w
      simp only [execOp, ho, Instr.alloc, Sem.run_bind, hzero, Result.andThen_ok]
      rfl
  · exact alloc_bad
theorem box_ok {e : TypeId} {x : Operand} : AllocOk P N (.box e x) (boxC P N e x) := by
  unfold boxC
  cases hu : unit P e with
  | false => exact alloc_bad
  | true =>
    intro call A S v S' h
    simp only at h ⊢
    obtain ⟨hf, h0⟩ := chk_ok h
    obtain ⟨h1, h2, h3, h4⟩ := newB_ok h0
    cases h3
    refine ⟨_, _, _, h2, h1, rfl, fun _ S2 hS => by rw [hf]; exact h4 S2 hS _, fun η a w ob ho hop => ?_⟩
    obtain ⟨hs, hc⟩ := fits_cells (P := P) (hop x (by simp [Op.operands])) hf (unit_ok hu)
    refine ⟨.pointer (some ⟨w.heap.size, 0, none⟩), (a.eval x).cells, 1, ?_, by rw [hs, Nat.one_mul], by rw [hs]; exact Nat.le_refl _, hc, fun ζ hσ _ => VR.ptr 0 (.inl hσ)⟩
    simp only [execOp, ho, Instr.box]
    rfl
theorem repC_ok {e : TypeId} {z : Cells} (h : repC P e = some z) : ∃ i v, P.info? e = some i ∧ i.zero = some v ∧ 1 ≤ sizeT P e ∧ sizeT P e = i.size ∧ v.cells.size = sizeT P e ∧ ∀ (η : Nv) n, n ≤ 32768 → CR η z (madeCells v.cells n) := by
  unfold repC at h
  split at h
  · rename_i zv hz
    obtain ⟨i, v0, hi, hv0, hl⟩ := zeroT_ok hz
    cases hb : Bool.and (Bool.and (unit P e) ((fits P e).f zv)) (Nat.ble 1 (sizeT P e)) with
    | false => rw [hb] at h; cases h
    | true =>
      rw [hb] at h
      obtain ⟨h12, h3⟩ := and_ok hb
      obtain ⟨hu, hf⟩ := and_ok h12
      have hpos := ble_ok h3
      have hsz : sizeT P e = i.size := by simp [sizeT, hi]
      have hfc := fun η : Nv => fits_cells (P := P) (VR.of_lift (η := η) hl) hf (unit_ok hu)
      have hcs := (hfc (Nv.mk0 (fun _ => none) (fun _ => 0) (fun _ => 0))).1
      refine ⟨i, v0, hi, hv0, hpos, hsz, hcs, fun η n hn j y hy => ?_⟩
      have hj : j < n := by
        rcases Nat.lt_or_ge j n with h' | h'
        · exact h'
        · rw [Array.getElem?_eq_none (by rw [size_madeCells]; exact h')] at hy; cases hy
      have hmod : j % v0.cells.size < v0.cells.size := Nat.mod_lt _ (by omega)
      have hy' : y = v0.cells[j % v0.cells.size] := by
        simp [madeCells, hj] at hy
        rw [getElem!_pos v0.cells _ hmod] at hy
        exact hy.symm
      have hr := (hfc η).2 (j % v0.cells.size) y (by rw [hy']; exact Array.getElem?_eq_getElem hmod)
      cases ha : isAggT P e with
      | true =>
        rw [ha] at h
        injection h with h
        subst h
        rw [accC_tabC _ (by omega)]
        rw [cellsOf_agg (fits_agg ha hf).1, hcs] at hr
        exact hr
      | false =>
        rw [ha] at h
        injection h with h
        subst h
        rw [accC_tabC _ (by omega)]
        rw [cellsOf_one (fits_one ha hf), hcs, unit_ok hu ha] at hr
        rw [Nat.mod_one] at hr
        exact hr
  · cases h
end Go.Exec

namespace Go.Exec
open Go
variable {P : Program} {N : Nat} {ρ : Nat → Int} {H : Hy}
theorem bytesT_ok {e : TypeId} {i : TypeInfo} (h : P.info? e = some i) : bytesT P e = i.bytes := by simp [bytesT, h]
theorem make_ok {t : TypeId} {l c : Operand} : AllocOk P N (.makeSlice t l c) (makeC P N t l c) := by
  unfold makeC
  split
  · rename_i e hd
    split
    · rename_i z hz
      obtain ⟨i, v0, hi, hv0, hpos, hsz, hvs, hz2⟩ := repC_ok hz
      cases hb : Nat.ble (bytesT P e) 1048576 with
      | false => exact alloc_bad
      | true =>
        have hby := ble_ok hb
        rw [bytesT_ok hi] at hby
        intro call A S v S' h
        simp only at h ⊢
        obtain ⟨il, h1, e1⟩ := idxN_ok h
        obtain ⟨ic, h2, e2⟩ := idxN_ok h1
        obtain ⟨h3, h4⟩ := chk_ok h2
        obtain ⟨h5, h6, h7, h8⟩ := newB_ok h4
        cases h7
        refine ⟨_, _, _, h6, h5, rfl, fun _ S2 hS => by rw [e1, e2, h3]; exact h8 S2 hS _, fun η a w ob ho hop => ?_⟩
        obtain ⟨jl, el⟩ := idx_val (hop l (by simp [Op.operands])) il
        obtain ⟨jc, ec⟩ := idx_val (hop c (by simp [Op.operands])) ic
        have hlc := ble_ok h3
        generalize ((opd N l).f A).s.a = L at *
        generalize ((opd N c).f A).s.a = C at *
        have h5' : C * sizeT P e ≤ 32768 := h5
        have hC : C ≤ 32768 := by
          have : C * 1 ≤ C * sizeT P e := Nat.mul_le_mul_left C hpos
          omega
        have hbytes : (i.bytes : Int) * (C : Int) ≤ 281474976710656 := by
          have h9 : i.bytes * C ≤ 1048576 * 32768 := Nat.mul_le_mul hby hC
          have h10 : ((i.bytes * C : Nat) : Int) ≤ 1048576 * 32768 := by omega
          simp at h10
          omega
        have hr := run_make (P := P) w t e i v0 (desc_ok hd (by simp)) hi hv0 jl jc (L : Int) (C : Int) (by omega) (by omega) hbytes (by omega)
        simp only [Int.toNat_natCast] at hr
        rw [← hsz] at hr
        refine ⟨_, madeCells v0.cells (C * sizeT P e), C, ?_, size_madeCells _ _, by rw [size_madeCells]; exact Nat.le_refl _, hz2 η _ h5', fun ζ hσ _ => VR.sl 0 hσ hlc⟩
        simp only [execOp, ho, el, ec, Sem.run_bind, hr, Result.andThen_ok]
        rfl
    · exact alloc_bad
  · exact alloc_bad
theorem madeCells_range (z : Array Value) (n : Nat) : (Array.range n).map (z[· % z.size]!) = madeCells z n := rfl
theorem buildSlice_ok {t : TypeId} {len : Nat} {ps : Array (Nat × Operand)} : AllocOk P N (.buildSlice t len ps) (buildSliceC P N t len ps.toList) := by
  unfold buildSliceC
  split
  · rename_i e hd
    split
    · rename_i z hz
      obtain ⟨i, v0, hi, hv0, hpos, hsz, hvs, hz2⟩ := repC_ok hz
      intro call A S v S' h
      simp only at h ⊢
      obtain ⟨pc, h1, h2, h3⟩ := parts_ok h
      obtain ⟨h5, h6, h7, h8⟩ := newB_ok h1
      cases h7
      refine ⟨_, _, _, h6, h5, rfl, fun _ S2 hS => by rw [h2]; exact h8 S2 hS _, fun η a w ob ho hop => ?_⟩
      have h5' : len * sizeT P e ≤ 32768 := h5
      have hopp : ∀ p ∈ ps.toList, OR η N A a p.2 := fun p hp => hop p.2 (by simp only [Op.operands]; simp; exact ⟨p.1, by simpa using hp⟩)
      have hpt : (ps.map fun (i, x) => (i, a.eval x)).toList = ps.toList.map fun (i, x) => (i, a.eval x) := by simp
      obtain ⟨cs', g1, g2, g3⟩ := h3 η a (madeCells v0.cells (len * sizeT P e)) (fun i => some (i * sizeT P e, sizeT P e)) hopp (by
        intro i q hq
        unfold places at hq
        rw [hd] at hq
        cases hq; rfl) (size_madeCells _ _) h5' (hz2 η _ h5')
      rw [← hpt] at g1
      rw [size_madeCells] at g2
      refine ⟨.slice (some ⟨w.heap.size, 0, none⟩) len len, cs', len, ?_, g2, by rw [g2]; exact Nat.le_refl _, g3, fun ζ hσ _ => VR.sl 0 hσ (Nat.le_refl _)⟩
      simp only [execOp, ho, Instr.buildSlice, Sem.run_bind, run_under hd (by simp), Result.andThen_ok, run_sizeOf' hi]
      rw [← hsz]
      rw [if_neg (by omega)]
      by_cases h0 : len * sizeT P e = 0
      · simp only [h0, if_true] at g1 ⊢
        rw [show (madeCells v0.cells 0) = #[] by simp [madeCells]] at g1
        rw [show (Array.range 0 : Array Nat) = #[] by simp, pure_bind, Array.map_empty, g1]
        simp [newRow]
      · have hzero := run_zero (P := P) hi hv0 w
        simp only [h0, if_false, Sem.run_bind, hzero, Result.andThen_ok, Sem.run_pure, madeCells_range, g1]
        simp [newRow]
    · exact alloc_bad
  · exact alloc_bad
/-- A load. -/
def LoadOk (P : Program) (N : Nat) (o : Op) (c : OpC) : Prop :=
  ∀ call A S v S', c.f call A S = .ok v S' → S' = S ∧ (∀ call2, c.f call2 A S = .ok v S) ∧
    ∀ η a w (ob : Oper), ob.op = o → (∀ x ∈ o.operands.toList, OR η N A a x) → Rep P η S w → ∃ y, (execOp a.eval ob).run P w = .ok (.value y) w ∧ VR η v y
theorem load_bad {o : Op} : LoadOk P N o bad := fun _ _ _ _ _ h => by cases h
theorem loadAt_ok {t : TypeId} (hu : P.underlying t ≠ none) (hi : P.info? t ≠ none) {n o : Nat} {S S' : St} {v : V} (h : (loadAt P t).f n o S = .ok v S') : S' = S ∧ ∀ η w b, Rep P η S w → PtrTo η n b → ∃ y, (loadVar t ⟨b, o, none⟩).run P w = .ok y w ∧ VR η v y := by
  unfold loadAt at h
  cases ha : isAggT P t with
  | false =>
    rw [ha] at h
    simp only at h
    obtain ⟨h1, h2⟩ := chk_ok h
    obtain ⟨h3, h4⟩ := and_ok h1
    cases h2
    refine ⟨rfl, fun η w b hR hb => ?_⟩
    have ho := blt_ok h4
    have hn := blt_ok h3
    have hb := hb.live hR hn (by unfold blkAt; omega)
    obtain ⟨b', hl⟩ := hR.live n hn (by unfold blkAt; omega)
    obtain rfl : b = b' := by have := hl.σ; rw [hb] at this; injection this
    obtain ⟨x, hx, hs⟩ := hl.cell o ho
    refine ⟨x, ?_, .sc hs⟩
    have hag := run_isAgg (P := P) (t := t) w hu
    rw [ha] at hag
    simp [loadVar, hag, hx]
  | true =>
    rw [ha] at h
    simp only at h
    obtain ⟨h1, h2⟩ := chk_ok h
    obtain ⟨h3, h4⟩ := and_ok h1
    cases h2
    refine ⟨rfl, fun η w b hR hb => ?_⟩
    have hfit := ble_ok h4
    have hn := blt_ok h3
    have hag := run_isAgg (P := P) (t := t) w hu
    rw [ha] at hag
    obtain ⟨i, hii⟩ := Option.ne_none_iff_exists'.1 hi
    have hsz : sizeT P t = i.size := by simp [sizeT, hii]
    have hfit' : o + i.size ≤ (blkAt S n).size := by rw [← hsz]; exact hfit
    by_cases h0 : i.size = 0
    · refine ⟨.agg #[], ?_, .agg #[] rfl (by show sizeT P t = 0; omega) (by simp) (fun j y hy => by simp at hy)⟩
      simp [loadVar, hag, run_sizeOf' hii, h0, loadCells, loadCellsFrom]
    · have hb := hb.live hR hn (by omega)
      obtain ⟨b', hl⟩ := hR.live n hn (by omega)
      obtain rfl : b = b' := by have := hl.σ; rw [hb] at this; injection this
      have hcell : ∀ j, j < i.size → ∃ x, w.cell? ((⟨b, o, none⟩ : Addr).add j) = some x ∧ SR η ((accC (o + j)).f (blkAt S n).cs) x := fun j hj => by
        rw [add_at]; exact hl.cell (o + j) (by omega)
      let f : Nat → Value := fun j => (w.cell? ((⟨b, o, none⟩ : Addr).add j)).getD undef
      have hf : ∀ j, j < i.size → w.cell? ((⟨b, o, none⟩ : Addr).add j) = some (f j) := fun j hj => by
        obtain ⟨x, hx, _⟩ := hcell j hj
        show _ = some ((w.cell? _).getD undef)
        rw [hx]; rfl
      have hr := run_loadCells (P := P) w ⟨b, o, none⟩ i.size f hf
      have hlen : ((List.range i.size).map f).toArray.size = i.size := by simp
      have hbs := hl.size
      refine ⟨.agg ((List.range i.size).map f).toArray, ?_, .agg _ rfl ?_ (by rw [hlen]; omega) (fun j y hy => ?_)⟩
      · simp [loadVar, hag, run_sizeOf' hii, hr]
      · show sizeT P t = _
        rw [hlen, hsz]
      · have hj : j < i.size := by
          rcases Nat.lt_or_ge j i.size with h' | h'
          · exact h'
          · rw [Array.getElem?_eq_none (by rw [hlen]; exact h')] at hy; cases hy
        have hy' : y = f j := by simp [hj] at hy; exact hy.symm
        obtain ⟨x, hx, hs⟩ := hcell j hj
        have := hf j hj
        rw [hx] at this
        injection this with this
        rw [hy', ← this]
        show SR η ((accC j).f ((subC o).f ((getB n).f S).cs)) x
        rw [accC_sub o j _ (by omega)]
        exact hs
theorem load_ok {t : TypeId} {x : Operand} : LoadOk P N (.load t x) (loadC P N t x) := by
  unfold loadC
  split
  · rename_i hk
    intro call A S v S' h
    simp only at h ⊢
    rcases iff_ok h with ⟨h0, g1⟩ | ⟨h0, g1⟩
    · obtain ⟨h2, h3⟩ := chk_ok g1
      cases h3
      refine ⟨rfl, fun _ => h, fun η a w ob ho hop hR => ?_⟩
      obtain ⟨k, ad, ex, hb, hc⟩ := (hop x (by simp [Op.operands])).asArgp (beq_ok h0)
      have hcell := hc w hR.inv
      have hag := run_isAgg (P := P) (t := t) w hk.1
      have hna : isAggT P t = false := by
        have e := beq_ok h2
        unfold intT at e
        split at e
        · rename_i k' hd
          unfold isAggT
          rw [hd]
        · have := kcode_ge k; omega
      rw [hna] at hag
      refine ⟨_, ?_, .sc (.var (s := ⟨24, ((opd N x).f A).s.a, ((opd N x).f A).s.b, 0, 0, [], []⟩) k rfl hb)⟩
      simp only [execOp, ho, ex, Instr.loadAt, Instr.sureAddr, Sem.run_bind, Sem.run_pure, Result.andThen_ok]
      simp [loadVar, hag, hcell]
    obtain ⟨h1, h2⟩ := ptrD_ok g1
    obtain ⟨rfl, h3⟩ := loadAt_ok hk.1 hk.2 h2
    refine ⟨rfl, fun _ => h, fun η a w ob ho hop hR => ?_⟩
    obtain ⟨b, hb, ex⟩ := ((hop x (by simp [Op.operands])).asSc (by rw [beq_ok h1]; omega)).asPtr (beq_ok h1)
    obtain ⟨y, hy, hv⟩ := h3 η w b hR hb
    refine ⟨y, ?_, hv⟩
    simp only [execOp, ho, ex, Instr.loadAt, Instr.sureAddr, Sem.run_bind, Sem.run_pure, Result.andThen_ok, hy]
  · exact load_bad
end Go.Exec

namespace Go.Exec
open Go
variable {P : Program} {N : Nat} {ρ : Nat → Int} {H : Hy}
inductive DRL (η : Nv) : List (Nat × List V) → List Deferred → Prop where
  | nil : DRL η [] []
  | cons {g vs args caps ds defs} (h : VRL η vs (args ++ caps : Array Value).toList) (hs : DRL η ds defs) : DRL η ((g, vs) :: ds) (⟨.fn (.func g) caps, args⟩ :: defs)
theorem DRL.up {η ζ : Nv} (hl : η.le ζ) : ∀ {a b}, DRL η a b → DRL ζ a b
  | _, _, .nil => .nil
  | _, _, .cons h hs => .cons (h.up hl) (hs.up hl)
/-- A call of a function comes to this. -/
def Comes' (P : Program) (g : Nat) (args : Array Value) (w : World) (R : Value → World → Prop) : Prop :=
  ((callFunc g args).run P w = .ok (.enter g args) w ∧ Calls P g args w fun e w' => ∃ x, e = .returned x ∧ R x w') ∨ ∃ x w', (callFunc g args).run P w = .ok (.value x) w' ∧ R x w'
/-- What a call gives. -/
structure Cal (P : Program) (ρ : Nat → Int) (call : Caller) : Prop where
  ok : ∀ g vs S v S' η args w, η.ρ = ρ → VRL η vs args → Rep P η S w → call g vs S = .ok v S' → S'.ds = S.ds ∧ Comes' P g args.toArray w fun x w' => ∃ ζ, Move P η S w ζ S' w' ∧ VR ζ v x
/-- Any operation. -/
def ChainOk (P : Program) (N : Nat) (ρ : Nat → Int) (o : Op) (c : OpC) : Prop :=
  ∀ call A S v S' η a w (ob : Oper), Cal P ρ call → η.ρ = ρ → ob.op = o → (∀ x ∈ o.operands.toList, OR η N A a x) → Rep P η S w → DRL η S.ds a.defers → c.f call A S = .ok v S' →
    ∀ (next : Act → World → Prop) Q, (∀ y ζ w' d', Move P η S w ζ S' w' → VR ζ v y → DRL ζ S'.ds d' → next ({ a with defers := d' }.put ob.dst y) w') → ob.wp P a w next Q
theorem chain_bad {o : Op} : ChainOk P N ρ o bad := fun _ _ _ _ _ _ _ _ _ _ _ _ _ _ _ h => by cases h
theorem PureOk.chain {o : Op} {c : OpC} (h : PureOk P N ρ o c) : ChainOk P N ρ o c := by
  intro call A S v S' η a w ob _ hρ ho hop hR hD hc next Q hn
  obtain ⟨rfl, -, h3⟩ := h call A S v S' hc
  obtain ⟨y, hy, hv⟩ := h3 η a w ob hρ ho hop
  unfold Oper.wp
  rw [hy]
  exact hn y η w a.defers (Move.refl hR) hv hD
theorem LoadOk.chain {o : Op} {c : OpC} (h : LoadOk P N o c) : ChainOk P N ρ o c := by
  intro call A S v S' η a w ob _ hρ ho hop hR hD hc next Q hn
  obtain ⟨rfl, -, h3⟩ := h call A S v S' hc
  obtain ⟨y, hy, hv⟩ := h3 η a w ob ho hop hR
  unfold Oper.wp
  rw [hy]
  exact hn y η w a.defers (Move.refl hR) hv hD
theorem AllocOk.chain {o : Op} {c : OpC} (h : AllocOk P N o c) : ChainOk P N ρ o c := by
  intro call A S v S' η a w ob _ hρ ho hop hR hD hc next Q hn
  obtain ⟨z, e, cs, h1, h2, rfl, -, h3⟩ := h call A S v S' hc
  obtain ⟨y, cells, k, hy, hk, hz, hcr, hv⟩ := h3 η a w ob ho hop
  unfold Oper.wp
  rw [hy]
  have hm := move_new (P := P) hR h1 h2 hk hz (lo := 0) (hi := 0) (.inr (Nat.le_refl _)) (fun i x _ hx => hcr i x hx) S.ds
  exact hn y _ _ a.defers hm (hv _ (by simp [Nv.set]) (by simp [Nv.set])) (hD.up hm.ext.le)
theorem mem_chain {o : Op} {c : OpC} (h : ∀ call A S v S' η a w (ob : Oper), η.ρ = ρ → ob.op = o → (∀ x ∈ o.operands.toList, OR η N A a x) → Rep P η S w → c.f call A S = .ok v S' → S'.ds = S.ds ∧ ∃ y ζ w', ((execOp a.eval ob).run P w = .ok (.value y) w' ∨ (execOp a.eval ob).run P w = .ok .skip w' ∧ y = undef) ∧ Move P η S w ζ S' w' ∧ VR ζ v y) : ChainOk P N ρ o c := by
  intro call A S v S' η a w ob _ hρ ho hop hR hD hc next Q hn
  obtain ⟨hds, y, ζ, w', hy, hm, hv⟩ := h call A S v S' η a w ob hρ ho hop hR hc
  unfold Oper.wp
  have := hn y ζ w' a.defers hm hv (by rw [hds]; exact hD.up hm.ext.le)
  rcases hy with hy | ⟨hy, rfl⟩
  · rw [hy]; exact this
  · rw [hy]; exact this
/-- Cells are stored. -/
theorem run_storeCells_live {η : Nv} {B : Blk} {n b : Nat} {w : World} (hl : Live P η B n b w) {o : Nat} {vs : List Value} (hfit : o + vs.length ≤ B.size) (h1 : ∀ v ∈ vs, v.oneCell' = true) :
    (storeCells ⟨b, o, none⟩ vs).run P w = .ok () (w.setCells b o vs) := by
  have hc := hl.cap
  have := run_storeCells_cells (P := P) b o vs 0 w (fun j hj => (hl.all (o + 0 + j) (by omega)).1) (fun j hj => (hl.all (o + 0 + j) (by omega)).2) h1
  rw [Nat.add_zero] at this
  exact this
theorem CR.one {η : Nv} {c : Cells} {cs : Array Value} (h : CR η c cs) : ∀ v ∈ cs.toList, v.oneCell' = true := by
  intro v hv
  obtain ⟨i, hi, rfl⟩ := List.getElem_of_mem hv
  exact (h i _ (by simp)).one
theorem store_ok {t : TypeId} {x y : Operand} : ChainOk P N ρ (.store t x y) (storeC P N t x y) := by
  unfold storeC
  split
  · rename_i hk
    refine mem_chain fun call A S v S' η a w ob _ ho hop hR h => ?_
    obtain ⟨i, hi⟩ := Option.ne_none_iff_exists'.1 hk.1.2
    have hsz : sizeT P t = i.size := by simp [sizeT, hi]
    have hvy := hop y (by simp [Op.operands])
    cases ha : isAggT P t with
    | false =>
      rw [ha] at h
      simp only at h
      obtain ⟨hf, h1⟩ := chk_ok h
      obtain ⟨h2, h3⟩ := ptrD_ok h1
      obtain ⟨h4, h5⟩ := chk_ok h3
      obtain ⟨h6, h7⟩ := and_ok h4
      cases h5
      obtain ⟨b, hb, ex⟩ := ((hop x (by simp [Op.operands])).asSc (by rw [beq_ok h2]; omega)).asPtr (beq_ok h2)
      obtain ⟨hn0, hn⟩ := wrN_ok h6
      have ho2 : ((opd N x).f A).s.b < (blkAt S ((opd N x).f A).s.a).size := blt_ok h7
      have hb := hb.live hR hn (by omega)
      obtain ⟨b', hl⟩ := hR.live _ hn (by omega)
      obtain rfl : b = b' := by have := hl.σ; rw [hb] at this; injection this
      have hsy := hvy.asSc (fits_one ha hf)
      have hone := hsy.one
      have hcells : (a.eval y).cells = #[a.eval y] := by generalize a.eval y = u at hone; cases u <;> first | rfl | (simp [Value.oneCell'] at hone)
      have hst := run_storeCells_live (P := P) hl (o := ((opd N x).f A).s.b) (vs := [a.eval y]) ho2 (fun v hv => by simp at hv; subst hv; exact hone)
      have hu1 : sizeT P t = 1 := unit_ok hk.2.1 ha
      have hsl := hl.size
      refine ⟨rfl, undef, η, w.setCells b ((opd N x).f A).s.b [a.eval y], .inr ⟨?_, rfl⟩, ?_, VR.undef η⟩
      · simp only [execOp, ho, ex, Instr.storeAt, Instr.sureAddr, storeVar, hcells, Sem.run_bind, Sem.run_pure, Result.andThen_ok, run_sizeOf' hi]
        rw [if_neg (by rw [← hsz, hu1]; simp)]
        simp [hst]
      · refine move_cells hR hn0 hn (by omega) hb ho2 (fun j hj => ?_) (fun k hk hc => ?_)
        · have : j = 0 := by simpa using hj
          subst this
          rw [Nat.add_zero, accC_updC_same]; exact hsy
        · simp at hc
          exact accC_updC_ne _ _ (by omega) (by omega) (by omega)
    | true =>
      rw [ha] at h
      simp only at h
      obtain ⟨hf, h1⟩ := chk_ok h
      obtain ⟨h2, h3⟩ := ptrD_ok h1
      obtain ⟨h4, h5⟩ := chk_ok h3
      obtain ⟨h6, h7⟩ := and_ok h4
      obtain ⟨b, hb, ex⟩ := ((hop x (by simp [Op.operands])).asSc (by rw [beq_ok h2]; omega)).asPtr (beq_ok h2)
      obtain ⟨hn0, hn⟩ := wrN_ok h6
      have ho2 : ((opd N x).f A).s.b + sizeT P t ≤ (blkAt S ((opd N x).f A).s.a).size := ble_ok h7
      obtain ⟨ht, hs⟩ := fits_agg ha hf
      obtain ⟨cs, ey, hcs, hcl, hcr⟩ := hvy.asAgg ht
      have hlen : cs.size = sizeT P t := by rw [← hcs, hs]
      have hrun : ∀ wo, (storeCells ⟨b, ((opd N x).f A).s.b, none⟩ cs.toList).run P w = .ok () wo → (execOp a.eval ob).run P w = .ok .skip wo := fun wo hst => by
        simp only [execOp, ho, ex, ey, Instr.storeAt, Instr.sureAddr, storeVar, Value.cells, Sem.run_bind, Sem.run_pure, Result.andThen_ok, run_sizeOf' hi]
        rw [if_neg (by rw [← hsz, hlen]; simp)]
        simp [hst]
      have h0 := hk.2.2
      · have hb := hb.live hR hn (by omega)
        obtain ⟨b', hl⟩ := hR.live _ hn (by omega)
        obtain rfl : b = b' := by have := hl.σ; rw [hb] at this; injection this
        have hst := run_storeCells_live (P := P) hl (o := ((opd N x).f A).s.b) (vs := cs.toList) (by simpa [hlen] using ho2) (CR.one hcr)
        have hsl := hl.size
        rcases iff_ok h5 with ⟨g1, g2⟩ | ⟨g1, g2⟩
        · cases g2
          obtain ⟨g3, g4⟩ := and_ok g1
          have e0 := beq_ok g3
          refine ⟨rfl, undef, η, _, .inr ⟨hrun _ hst, rfl⟩, ?_, VR.undef η⟩
          refine move_cells hR hn0 hn (by omega) hb (by simpa [hlen] using ho2) (fun j hj => ?_) (fun k hk hc => ?_)
          · rw [e0, Nat.zero_add]
            exact hcr j _ (by simp at hj ⊢)
          · have e4 : sizeT P t = (blkAt S ((opd N x).f A).s.a).size := beq_ok g4
            simp [hlen] at hc; omega
        · cases g2
          refine ⟨rfl, undef, η, _, .inr ⟨hrun _ hst, rfl⟩, ?_, VR.undef η⟩
          refine move_cells hR hn0 hn (by omega) hb (by simpa [hlen] using ho2) (fun j hj => ?_) (fun k hk hc => ?_)
          · have hj' : j < sizeT P t := by simpa [hlen] using hj
            rw [accC_paste _ _ _ _ _ (by omega) (by omega), if_pos (by omega)]
            have := hcr j cs[j] (Array.getElem?_eq_getElem (by omega))
            rw [show 0 + (((opd N x).f A).s.b + j - ((opd N x).f A).s.b) = j by omega]
            simpa using this
          · simp [hlen] at hc
            rw [accC_paste _ _ _ _ _ (by omega) (by omega), if_neg (by omega)]
            rfl
  · exact chain_bad
end Go.Exec

namespace Go.Exec
open Go
variable {P : Program} {N : Nat} {ρ : Nat → Int} {H : Hy}
theorem appendNew_ok {e len n : Nat} {cs : Cells} {S : St} {v : V} {S' : St} (h : appendNew P e len n cs S = .ok v S') : (len + n) * sizeT P e ≤ 32768 ∧ S.next < 32768 ∧ v = mkSu S.next 0 (len + n) 0 ∧ S' = ⟨(updH S.next).f ⟨(len + n) * sizeT P e, e, cs⟩ S.heap, S.next + 1, S.ds⟩ := by
  obtain ⟨h1, h2, h3, -⟩ := newB_ok h
  cases h3
  exact ⟨h1, h2, rfl, rfl⟩
/-- The first elements, as the model reads them. -/
theorem first_cells {z n : Nat} {S S' : St} {x : V} {k : Cells → Nat → Ans} {v : V} (hn : n ≠ 0) (hz : 1 ≤ z) (h : firstC z n S x k = .ok v S') : ∃ c o, k c o = .ok v S' ∧
    ∀ η w u full, VR η x u → Rep P η S w → ((isSl x = true ∧ full = x.s.c) ∨ (x.s.tag = 2 ∧ full = x.s.a) ∨ (x.s.tag = 5 ∧ full = 0)) → n ≤ full → ∃ news : List Value, (Builtin.firstCells z n u).run P w = .ok news.toArray w ∧ news.length = n * z ∧ o + n * z ≤ 32768 ∧ ∀ j (hj : j < news.length), SR η ((accC (o + j)).f c) news[j] := by
  have hpos : 0 < n * z := Nat.mul_pos (by omega) (by omega)
  rcases iff_ok h with ⟨h1, h2⟩ | ⟨h1, h2⟩
  · obtain ⟨h3, h4⟩ := chk_ok h2
    obtain ⟨h5, h6⟩ := and_ok h3
    have hm := blt_ok h5
    have hfit : x.s.b + n * z ≤ (blkAt S x.s.a).size := ble_ok h6
    refine ⟨_, _, h4, fun η w u full hv hR hlen hnf => ?_⟩
    obtain ⟨b, cap, hb, e, -, -, -⟩ := isSl_ok h1 hv
    obtain ⟨b', hl⟩ := hR.live _ hm (by omega)
    obtain rfl : b = b' := by have := hl.σ; rw [hb] at this; injection this
    have hbs := hl.size
    let f : Nat → Value := fun j => (w.cell? ⟨b, x.s.b + j, none⟩).getD undef
    have hf : ∀ j, j < n * z → w.cell? ⟨b, x.s.b + j, none⟩ = some (f j) ∧ SR η ((accC (x.s.b + j)).f (blkAt S x.s.a).cs) (f j) := fun j hj => by
      obtain ⟨y, hy, hs⟩ := hl.cell (x.s.b + j) (by omega)
      have : f j = y := by show (w.cell? _).getD undef = y; rw [hy]; rfl
      rw [this]; exact ⟨hy, hs⟩
    have hget : ∀ j (hj : j < ((List.range (n * z)).map f).length), ((List.range (n * z)).map f)[j] = f j := fun j hj => by simp
    have hll : ((List.range (n * z)).map f).length = n * z := by simp
    refine ⟨(List.range (n * z)).map f, ?_, hll, by omega, fun j hj => ?_⟩
    · rw [e]
      exact run_firstCells_some w z n _ _ cap _ hll (fun j y hy => by
        have hj : j < n * z := by
          rcases Nat.lt_or_ge j (n * z) with h' | h'
          · exact h'
          · rw [List.getElem?_eq_none (by rw [hll]; exact h')] at hy; cases hy
        have : f j = y := by simp [hj] at hy; exact hy
        rw [add_at, ← this]; exact (hf j hj).1)
    · rw [hget j hj]
      exact (hf j (by rw [hll] at hj; exact hj)).2
  · rcases iff_ok h2 with ⟨h3, h4⟩ | ⟨h3, h4⟩
    · obtain ⟨h5, h6⟩ := chk_ok h4
      obtain ⟨h7, h8⟩ := and_ok h5
      have hz1 := beq_ok h7
      have hn2 := ble_ok h8
      subst hz1
      refine ⟨_, _, h6, fun η w u full hv hR hlen hnf => ?_⟩
      obtain ⟨t, e, ha, hb⟩ := (hv.asSc (by rw [beq_ok h3]; omega)).asStr (beq_ok h3)
      have hnc : n ≤ t.data.toList.length := by
        rcases hlen with ⟨hs, _⟩ | ⟨_, hl⟩ | ⟨ht, _⟩
        · rw [h1] at hs; cases hs
        · rw [← ha, ← hl]; exact hnf
        · have := beq_ok h3; omega
      have hbl : (byteCells t).length = t.data.toList.length := by rw [byteCells_length]; simp
      have hll : ((byteCells t).take n).length = n * 1 := by rw [List.length_take, hbl, Nat.mul_one]; omega
      refine ⟨(byteCells t).take n, ?_, hll, by omega, fun j hj => ?_⟩
      · rw [e]
        simp only [Builtin.firstCells, Sem.run_pure]
        congr 1
        apply Array.ext'
        simp [byteCells]
      · have hj2 : j < n := by rw [hll, Nat.mul_one] at hj; exact hj
        have hj' : j < t.data.toList.length := by omega
        rw [Nat.zero_add, accC_tabC _ (by omega)]
        have hby : byteAt x.s.b j = (t.data.toList[j]).toNat := by rw [hb]; exact strOf_byte _ j _ (List.getElem?_eq_getElem hj')
        have hel : ((byteCells t).take n)[j] = .int .u8 ((t.data.toList[j]).toNat : Int) := by simp [byteCells]
        rw [hel]
        have hlt := (t.data.toList[j]).toNat_lt
        have := SR.int (η := η) (s := byteSc x.s.b j) .u8 rfl (by show byteAt x.s.b j < 256; rw [hby]; exact hlt)
        rw [show (byteSc x.s.b j).a = (t.data.toList[j]).toNat from hby, IntWalk.u8_in _ (by omega)] at this
        exact this
    · obtain ⟨h5, h6⟩ := chk_ok h4
      obtain ⟨h7, h8⟩ := and_ok h5
      exact absurd (beq_ok h8) hn
/-- Where the elements come from, as the model sees them. -/
theorem first_ok {z n : Nat} {S S' : St} {x : V} {k : Cells → Nat → Ans} {v : V} (hn : n ≠ 0) (hz : 1 ≤ z) (h : firstC z n S x k = .ok v S') : ∃ c o, k c o = .ok v S' ∧
    ∀ η w u tx, VR η x u → Rep P η S w → srcT P tx = true → ((isSl x = true ∧ n = x.s.c) ∨ (x.s.tag = 2 ∧ n = x.s.a) ∨ (x.s.tag = 5 ∧ n = 0)) → ∃ news : List Value, Src P z tx u n news w ∧ news.length = n * z ∧ o + n * z ≤ 32768 ∧ ∀ j (hj : j < news.length), SR η ((accC (o + j)).f c) news[j] := by
  have kind : ∀ tx, srcT P tx = true → (∃ e', P.underlying tx = some (.slice e')) ∨ P.underlying tx = some .string := fun tx hk => by
    unfold srcT at hk
    split at hk
    · rename_i e hd; exact .inl ⟨e, desc_ok hd (by simp)⟩
    · rename_i hd; exact .inr (desc_ok hd (by simp))
    · cases hk
  have hpos : 0 < n * z := Nat.mul_pos (by omega) (by omega)
  rcases iff_ok h with ⟨h1, h2⟩ | ⟨h1, h2⟩
  · obtain ⟨h3, h4⟩ := chk_ok h2
    obtain ⟨h5, h6⟩ := and_ok h3
    have hm := blt_ok h5
    have hfit : x.s.b + n * z ≤ (blkAt S x.s.a).size := ble_ok h6
    refine ⟨_, _, h4, fun η w u tx hv hR hk hlen => ?_⟩
    obtain ⟨b, cap, hb, e, -, -, -⟩ := isSl_ok h1 hv
    have hnc : n = x.s.c := by
      rcases hlen with ⟨_, hl⟩ | ⟨ht, _⟩ | ⟨ht, _⟩
      · exact hl
      · rcases or_ok h1 with h | h <;> have := beq_ok h <;> omega
      · rcases or_ok h1 with h | h <;> have := beq_ok h <;> omega
    obtain ⟨b', hl⟩ := hR.live _ hm (by omega)
    obtain rfl : b = b' := by have := hl.σ; rw [hb] at this; injection this
    have hbs := hl.size
    let f : Nat → Value := fun j => (w.cell? ⟨b, x.s.b + j, none⟩).getD undef
    have hf : ∀ j, j < n * z → w.cell? ⟨b, x.s.b + j, none⟩ = some (f j) ∧ SR η ((accC (x.s.b + j)).f (blkAt S x.s.a).cs) (f j) := fun j hj => by
      obtain ⟨y, hy, hs⟩ := hl.cell (x.s.b + j) (by omega)
      have : f j = y := by show (w.cell? _).getD undef = y; rw [hy]; rfl
      rw [this]; exact ⟨hy, hs⟩
    have hget : ∀ j (hj : j < ((List.range (n * z)).map f).length), ((List.range (n * z)).map f)[j] = f j := fun j hj => by simp
    have hll : ((List.range (n * z)).map f).length = n * z := by simp
    refine ⟨(List.range (n * z)).map f, ?_, hll, by omega, fun j hj => ?_⟩
    · rw [e, ← hnc]
      have hcells : ∀ j y, ((List.range (n * z)).map f)[j]? = some y → w.cell? ((⟨b, x.s.b, none⟩ : Addr).add j) = some y := fun j y hy => by
        have hj : j < n * z := by
          rcases Nat.lt_or_ge j (n * z) with h' | h'
          · exact h'
          · rw [List.getElem?_eq_none (by rw [hll]; exact h')] at hy; cases hy
        have : f j = y := by simp [hj] at hy; exact hy
        rw [add_at, ← this]; exact (hf j hj).1
      have hone : ∀ y ∈ (List.range (n * z)).map f, y.oneCell' = true := fun y hy => by
        obtain ⟨j, hj, rfl⟩ := List.mem_map.1 hy
        exact (hf j (by simpa using hj)).2.one
      rcases kind tx hk with ⟨e', hk⟩ | hk
      · exact Src.ofSlice w hk ⟨b, x.s.b, none⟩ n cap _ hll hcells hone
      · have := Src.ofSlice (P := P) w (size := z) (tx := tx) (e' := 0) (n := n) (c := cap) (news := (List.range (n * z)).map f)
        exact ⟨.inr hk, fun _ => rfl, run_firstCells_some w z n _ n cap _ hll hcells, run_firstCells_some w.drew z n _ n cap _ hll (by simpa using hcells), hll, hone⟩
    · rw [hget j hj]
      exact (hf j (by rw [hll] at hj; exact hj)).2
  · rcases iff_ok h2 with ⟨h3, h4⟩ | ⟨h3, h4⟩
    · obtain ⟨h5, h6⟩ := chk_ok h4
      obtain ⟨h7, h8⟩ := and_ok h5
      have hz1 := beq_ok h7
      have hn2 := ble_ok h8
      subst hz1
      refine ⟨_, _, h6, fun η w u tx hv hR hk hlen => ?_⟩
      obtain ⟨t, e, ha, hb⟩ := (hv.asSc (by rw [beq_ok h3]; omega)).asStr (beq_ok h3)
      have hnc : n = t.data.toList.length := by
        rcases hlen with ⟨hs, _⟩ | ⟨_, hl⟩ | ⟨ht, _⟩
        · rw [h1] at hs; cases hs
        · rw [hl, ha]
        · have := beq_ok h3; omega
      have hts : t.size = n := by rw [hnc]; simp
      have hbl := byteCells_length t
      refine ⟨byteCells t, ?_, by rw [hbl, hts, Nat.mul_one], by omega, fun j hj => ?_⟩
      · rw [e]
        have := Src.ofString (P := P) w (tx := tx)
        rcases kind tx hk with ⟨e', hk⟩ | hk
        · refine ⟨.inl ⟨e', hk⟩, fun _ => by rw [← hts]; rfl, by rw [← hts]; exact firstCells_string t w, by rw [← hts]; exact firstCells_string t w.drew, by rw [hbl, hts, Nat.mul_one], fun y hy => ?_⟩
          obtain ⟨_, _, rfl⟩ := List.mem_map.1 hy
          rfl
        · rw [← hts]; exact Src.ofString w hk t
      · have hj' : j < t.data.toList.length := by rw [← hnc, ← hts, ← hbl]; exact hj
        rw [Nat.zero_add, accC_tabC _ (by omega)]
        have hby : byteAt x.s.b j = (t.data.toList[j]).toNat := by rw [hb]; exact strOf_byte _ j _ (List.getElem?_eq_getElem hj')
        have hel : (byteCells t)[j] = .int .u8 ((t.data.toList[j]).toNat : Int) := by simp [byteCells]
        rw [hel]
        have hlt := (t.data.toList[j]).toNat_lt
        have := SR.int (η := η) (s := byteSc x.s.b j) .u8 rfl (by show byteAt x.s.b j < 256; rw [hby]; exact hlt)
        rw [show (byteSc x.s.b j).a = (t.data.toList[j]).toNat from hby, IntWalk.u8_in _ (by omega)] at this
        exact this
    · obtain ⟨h5, h6⟩ := chk_ok h4
      obtain ⟨h7, h8⟩ := and_ok h5
      exact absurd (beq_ok h8) hn
end Go.Exec

namespace Go.Exec
open Go
variable {P : Program} {N : Nat} {ρ : Nat → Int} {H : Hy}
theorem getElem_app {α : Type} (a b : List α) {j : Nat} (hj : j < (a ++ b).length) : (a ++ b)[j] = if h : j < a.length then a[j] else b[j - a.length]'(by simp at hj; omega) := by
  rw [List.getElem_append]
/-- A row grows: the new block. -/
theorem move_grown {η : Nv} {S : St} {w : World} (hR : Rep P η S w) {e len n cap : Nat} {cs : Cells} {olds news : List Value} {zs : Array Value} (hn : S.next < 32768) (h1 : (len + n) * sizeT P e ≤ 32768) (hol : olds.length = len * sizeT P e) (hnl : news.length = n * sizeT P e) (hcap : len + n ≤ cap) (hzs : zs.size = (cap - (len + n)) * sizeT P e)
    (ho : ∀ j (hj : j < olds.length), SR η ((accC j).f cs) olds[j]) (hw : ∀ j (hj : j < news.length), SR η ((accC (len * sizeT P e + j)).f cs) news[j]) :
    Move P η S w (η.set S.next w.heap.size cap) ⟨(updH S.next).f ⟨(len + n) * sizeT P e, e, cs⟩ S.heap, S.next + 1, S.ds⟩ (w.drew.alloc (.cells ((olds ++ news).toArray ++ zs) e)) := by
  have hsz : ((olds ++ news).toArray ++ zs).size = cap * sizeT P e := by
    simp only [Array.size_append, List.size_toArray, List.length_append, hol, hnl, hzs, ← Nat.add_mul]
    congr 1; omega
  have hle : (len + n) * sizeT P e ≤ cap * sizeT P e := Nat.mul_le_mul_right _ hcap
  refine (move_drew hR).trans (move_new (lo := 0) (hi := 0) hR.drew hn h1 hsz (by rw [hsz]; exact hle) (.inr (Nat.le_refl _)) (fun i x hi hx => ?_) S.ds)
  have hlen : (olds ++ news).length = (len + n) * sizeT P e := by rw [List.length_append, hol, hnl, Nat.add_mul]
  rw [Array.getElem?_append_left (by simpa [hlen] using hi)] at hx
  have hi' : i < (olds ++ news).length := by rw [hlen]; exact hi
  have hx' : x = (olds ++ news)[i] := by
    rw [List.getElem?_toArray, List.getElem?_eq_getElem hi'] at hx
    injection hx with hx; exact hx.symm
  rw [hx', getElem_app]
  split
  · rename_i hlt; exact ho i hlt
  · rename_i hge
    have := hw (i - olds.length) (by rw [List.length_append] at hi'; omega)
    rwa [show len * sizeT P e + (i - olds.length) = i by omega] at this
/-- Cells of a block as a list of values. -/
theorem old_cells {η : Nv} {S : St} {w : World} (hR : Rep P η S w) {m b o k : Nat} (hm : m < 32768) (hb : η.σ m = some b) (hfit : o + k ≤ (blkAt S m).size) : ∃ olds : List Value, olds.length = k ∧ ∀ j (hj : j < olds.length), w.cell? ⟨b, o + j, none⟩ = some olds[j] ∧ SR η ((accC (o + j)).f (blkAt S m).cs) olds[j] := by
  by_cases h0 : k = 0
  · subst h0; exact ⟨[], rfl, fun j hj => by simp at hj⟩
  · obtain ⟨b', hl⟩ := hR.live m hm (by omega)
    obtain rfl : b = b' := by have := hl.σ; rw [hb] at this; injection this
    refine ⟨(List.range k).map fun j => (w.cell? ⟨b, o + j, none⟩).getD undef, by simp, fun j hj => ?_⟩
    have hj' : j < k := by simpa using hj
    obtain ⟨y, hy, hs⟩ := hl.cell (o + j) (by omega)
    have e : ((List.range k).map fun j => (w.cell? ⟨b, o + j, none⟩).getD undef)[j] = y := by simp [hy]
    rw [e]; exact ⟨hy, hs⟩
theorem append_ok {t t2 : TypeId} {s x : Operand} {c : Call} (hc : c.callee = .builtin .append) (hx : c.args.toList = [s, x]) (ht : c.argTypes.toList = [t, t2]) : ChainOk P N ρ (.call c) (appendC P N t t2 s x) := by
  obtain ⟨cal, args, tys⟩ := c
  simp only at hc hx ht
  subst hc
  obtain rfl : args = #[s, x] := Array.ext' (by simpa using hx)
  obtain rfl : tys = #[t, t2] := Array.ext' (by simpa using ht)
  unfold appendC
  split
  · rename_i e hd
    split
    · rename_i z hz
      obtain ⟨i, v0, hi, hv0, hpos, hsz, hvs, -⟩ := repC_ok hz
      cases hb : Bool.and (srcT P t2) (Nat.ble (bytesT P e) 1048576) with
      | false => exact chain_bad
      | true =>
        obtain ⟨hsrc, hb2⟩ := and_ok hb
        have hby := ble_ok hb2
        rw [bytesT_ok hi] at hby
        have hte := desc_ok hd (by simp)
        refine mem_chain fun call A S v S' η a w ob _ ho hop hR h => ?_
        simp only at h
        have hvs1 := hop s (by simp [Op.operands, Call.operands])
        have hvx := hop x (by simp [Op.operands, Call.operands])
        have hrun : ∀ {y w'}, (Builtin.append_ #[t, t2] ob.type #[a.eval s, a.eval x]).run P w = .ok y w' → (execOp a.eval ob).run P w = .ok (.value y) w' := fun {y w'} hr => by
          rw [exec_builtin a ob ho w]
          simp [builtin, hr]
        obtain ⟨n, h1, -, hlen⟩ := lenV_ok h
        rcases iff_ok h1 with ⟨h2, h3⟩ | ⟨h2, h3⟩
        · -- nothing
          have hn0 := beq_ok h2
          subst hn0
          obtain ⟨h4, h5⟩ := chk_ok h3
          cases h5
          refine ⟨rfl, a.eval s, η, w, .inl (hrun ?_), Move.refl hR, hvs1⟩
          have hsrc0 : Src P i.size t2 (a.eval x) 0 [] w := by
            have kind : (∃ e', P.underlying t2 = some (.slice e')) ∨ P.underlying t2 = some .string := by
              unfold srcT at hsrc
              split at hsrc
              · rename_i e hd; exact .inl ⟨e, desc_ok hd (by simp)⟩
              · rename_i hd; exact .inr (desc_ok hd (by simp))
              · cases hsrc
            have hl0 : ∀ w' : World, (Builtin.lenOf (a.eval x)).run P w' = .ok 0 w' ∧ (Builtin.firstCells i.size 0 (a.eval x)).run P w' = .ok #[] w' := fun w' => by
              rcases len_val hvx hlen with ⟨b, cap, -, e, -⟩ | ⟨t, e, hn, -⟩ | ⟨e, -, -⟩ <;> rw [e]
              · exact ⟨rfl, by simp [Builtin.firstCells, loadCells, loadCellsFrom]⟩
              · have hts : t.size = 0 := by have h0 : t.data.toList.length = 0 := hn.symm; simpa using h0
                exact ⟨by simp [Builtin.lenOf, hts], by simp [Builtin.firstCells]⟩
              · exact ⟨rfl, by simp [Builtin.firstCells]⟩
            exact ⟨kind, fun w' => (hl0 w').1, (hl0 w).2, (hl0 w.drew).2, by simp, fun _ h => by cases h⟩
          rcases or_ok h4 with h6 | h6
          · obtain ⟨b, cap, -, e, hle, -⟩ := isSl_ok h6 hvs1
            rw [e]
            exact run_append_nothing w t t2 ob.type _ i hte hi _ _ _ hle _ hsrc0
          · have e := (hvs1.asSc (by rw [beq_ok h6]; omega)).asNils (beq_ok h6)
            rw [e]
            exact run_append_nothing w t t2 ob.type _ i hte hi _ _ _ (Nat.le_refl _) _ hsrc0
        · have hn0 := beq_no h2
          obtain ⟨xc, xo, h4, h5⟩ := first_ok hn0 hpos h3
          obtain ⟨news, hS, hnl, hxo, hnr⟩ := h5 η w _ t2 hvx hR hsrc hlen
          rw [hsz] at hS
          rcases iff_ok h4 with ⟨h6, h7⟩ | ⟨h6, h7⟩
          · -- to nil
            obtain ⟨g1, g2, rfl, rfl⟩ := appendNew_ok h7
            have es := (hvs1.asSc (by rw [beq_ok h6]; omega)).asNils (beq_ok h6)
            have hfit := growslice_fits (need := 0 + n) (old := 0) (bytes := i.bytes) (by omega) (by
              have h9 : n * 1 ≤ n * sizeT P e := Nat.mul_le_mul_left n hpos
              have h10 : (0 + n) * i.bytes ≤ 32768 * 1048576 := Nat.mul_le_mul (by omega) hby
              omega)
            have hr := run_append_grow_src (P := P) w t t2 ob.type e i v0 hte hi hv0 none 0 0 [] (by simp [Builtin.firstCells]) (a.eval x) n news hS (by omega) (by have h9 : n * 1 ≤ n * sizeT P e := Nat.mul_le_mul_left n hpos; omega) hfit
            have hge := grownCap_ge w (0 + n) 0 e
            refine ⟨rfl, _, _, _, .inl (hrun (by rw [es]; exact hr)), move_grown hR g2 g1 (by simp) hnl hge (by rw [size_zeroCells, hvs]) (fun j hj => by simp at hj) (fun j hj => ?_), ?_⟩
            · have hj' : j < n * sizeT P e := by rw [← hnl]; exact hj
              rw [Nat.zero_mul, Nat.zero_add, accC_sub xo j xc (by omega)]
              exact hnr j hj
            · have := VR.su (η := η.set S.next w.heap.size (grownCap w (0 + n) 0 e)) (n := S.next) (b := w.heap.size) 0 (len := 0 + n) (d := 0) (by simp [Nv.set]) (by simp [Nv.set]; simpa using hge)
              simpa [Nv.set] using this
          · obtain ⟨h8, h9⟩ := chk_ok h7
            obtain ⟨h10, h11⟩ := chk_ok h9
            obtain ⟨h12, h13⟩ := and_ok h10
            obtain ⟨hm0, hm⟩ := wrN_ok h12
            have hol : ((opd N s).f A).s.b + ((opd N s).f A).s.c * sizeT P e ≤ (blkAt S ((opd N s).f A).s.a).size := ble_ok h13
            obtain ⟨b, cap, hb, es, hlc, h6c, h12c⟩ := isSl_ok h8 hvs1
            obtain ⟨olds, hol1, hol2⟩ := old_cells hR hm hb hol
            have hn1 : n * 1 ≤ n * sizeT P e := Nat.mul_le_mul_left n hpos
            have hc1 : ((opd N s).f A).s.c * 1 ≤ ((opd N s).f A).s.c * sizeT P e := Nat.mul_le_mul_left _ hpos
            have hmul : (((opd N s).f A).s.c + n) * sizeT P e = ((opd N s).f A).s.c * sizeT P e + n * sizeT P e := Nat.add_mul _ _ _
            have grown : ∀ {S2 : St} {cs : Cells} {v : V} {S' : St}, Rep P η S2 w → Move P η S w η S2 w → S2.ds = S.ds → cap < ((opd N s).f A).s.c + n → appendNew P e ((opd N s).f A).s.c n cs S2 = .ok v S' →
                (∀ j, j < olds.length → (accC j).f cs = (accC (((opd N s).f A).s.b + j)).f (blkAt S ((opd N s).f A).s.a).cs) → (∀ j, j < n * sizeT P e → (accC (((opd N s).f A).s.c * sizeT P e + j)).f cs = (accC (xo + j)).f xc) →
                S'.ds = S.ds ∧ ∃ y ζ w', ((execOp a.eval ob).run P w = .ok (.value y) w' ∨ (execOp a.eval ob).run P w = .ok .skip w' ∧ y = undef) ∧ Move P η S w ζ S' w' ∧ VR ζ v y := by
              intro S2 cs v S' hR2 hM2 hds2 hlt hap ho1 ho2
              obtain ⟨g1, g2, rfl, rfl⟩ := appendNew_ok hap
              have hfit := growslice_fits (need := ((opd N s).f A).s.c + n) (old := cap) (bytes := i.bytes) hlt (by
                have h10 : (((opd N s).f A).s.c + n) * i.bytes ≤ 32768 * 1048576 := Nat.mul_le_mul (by omega) hby
                omega)
              have hold : (Builtin.firstCells i.size ((opd N s).f A).s.c (.slice (some ⟨b, ((opd N s).f A).s.b, none⟩) ((opd N s).f A).s.c cap)).run P w.drew = .ok olds.toArray w.drew := by
                rw [← hsz]
                exact run_firstCells_some w.drew _ _ _ _ _ olds hol1 (fun j u hu => by
                  have hj : j < olds.length := by
                    rcases Nat.lt_or_ge j olds.length with h' | h'
                    · exact h'
                    · rw [List.getElem?_eq_none h'] at hu; cases hu
                  rw [add_at]
                  have := (hol2 j hj).1
                  rw [List.getElem?_eq_getElem hj] at hu
                  injection hu with hu
                  rw [hu] at this
                  exact this)
              have hr := run_append_grow_src (P := P) w t t2 ob.type e i v0 hte hi hv0 _ _ _ olds hold (a.eval x) n news hS hlt (by omega) hfit
              have hge := grownCap_ge w (((opd N s).f A).s.c + n) cap e
              refine ⟨hds2, _, _, _, .inl (hrun (by rw [es]; exact hr)), hM2.trans (move_grown hR2 g2 g1 hol1 hnl hge (by rw [size_zeroCells, hvs]) (fun j hj => ?_) (fun j hj => ?_)), ?_⟩
              · rw [ho1 j hj]; exact (hol2 j hj).2
              · rw [ho2 j (by rw [← hnl]; exact hj)]; exact hnr j hj
              · have := VR.su (η := η.set S2.next w.heap.size (grownCap w (((opd N s).f A).s.c + n) cap e)) (n := S2.next) (b := w.heap.size) 0 (len := ((opd N s).f A).s.c + n) (d := 0) (by simp [Nv.set]) (by simp [Nv.set]; simpa using hge)
                simpa [Nv.set] using this
            rcases iff_ok h11 with ⟨k1, k2⟩ | ⟨k1, k2⟩
            · -- a slice of unknown capacity
              obtain ⟨k3, k4⟩ := chk_ok k2
              obtain ⟨k5, k6⟩ := and_ok k3
              obtain ⟨k7, k8⟩ := and_ok k6
              obtain ⟨k9, k10⟩ := and_ok k8
              have hb0 := beq_ok k5
              have hd0 := beq_ok k7
              have hel : (blkAt S ((opd N s).f A).s.a).elem = e := beq_ok k9
              have hpos2 : 0 < (blkAt S ((opd N s).f A).s.a).size := ble_ok k10
              obtain ⟨hcap, hcap2⟩ := h12c (beq_ok k1)
              rw [hd0, Nat.sub_zero] at hcap
              obtain ⟨b', hl⟩ := hR.live _ hm hpos2
              obtain rfl : b = b' := by have := hl.σ; rw [hb] at this; injection this
              have hbs := hl.size
              obtain ⟨g1, g2, -, -⟩ := appendNew_ok k4
              have g1' : ((opd N s).f A).s.c * sizeT P e + n * sizeT P e ≤ 32768 := by rw [← hmul]; exact g1
              have hpin : ∀ j, j < n * sizeT P e → (accC (((opd N s).f A).s.c * sizeT P e + j)).f ((paste xo (((opd N s).f A).s.c * sizeT P e) (n * sizeT P e)).f xc (blkAt S ((opd N s).f A).s.a).cs) = (accC (xo + j)).f xc := fun j hj => by
                have e0 : xo + (((opd N s).f A).s.c * sizeT P e + j - ((opd N s).f A).s.c * sizeT P e) = xo + j := by omega
                rw [accC_paste _ _ _ _ _ g1' (by omega), if_pos (by omega), e0]
              have hpout : ∀ j, j < ((opd N s).f A).s.c * sizeT P e → (accC j).f ((paste xo (((opd N s).f A).s.c * sizeT P e) (n * sizeT P e)).f xc (blkAt S ((opd N s).f A).s.a).cs) = (accC j).f (blkAt S ((opd N s).f A).s.a).cs := fun j hj => by
                rw [accC_paste _ _ _ _ _ g1' (by omega), if_neg (by omega)]
              by_cases hroom : ((opd N s).f A).s.c + n ≤ cap
              · obtain ⟨-, -, rfl, rfl⟩ := appendNew_ok k4
                have hk : (((opd N s).f A).s.c + n) * sizeT P e ≤ η.κ ((opd N s).f A).s.a * sizeT P e := Nat.mul_le_mul_right _ (by omega)
                have hall : ∀ j, j < news.length → (w.cell? ⟨b, 0 + ((opd N s).f A).s.c * i.size + j, none⟩).isSome = true ∧ w.frozen? ⟨b, 0 + ((opd N s).f A).s.c * i.size + j, none⟩ = false := fun j hj => by
                  rw [← hsz]
                  exact hl.all _ (by rw [hel]; omega)
                have hr := run_append_room_src (P := P) w t t2 ob.type e i hte hi b 0 ((opd N s).f A).s.c cap (a.eval x) n news hS hroom (fun j hj => (hall j hj).1) (fun j hj => (hall j hj).2)
                rw [← hsz] at hr
                refine ⟨rfl, _, _, _, .inl (hrun (by rw [es, hb0]; exact hr)), move_over hR hm0 hm hpos2 hb g2 g1 hel.symm hk (o := 0 + ((opd N s).f A).s.c * sizeT P e) (vs := news) (by omega) (fun q hq => ?_) S.ds, ?_⟩
                · have hsome : ∀ j, j < news.length → (w.cell? ⟨b, 0 + ((opd N s).f A).s.c * sizeT P e + j, none⟩).isSome = true := fun j hj => by have := (hall j hj).1; rw [← hsz] at this; exact this
                  by_cases hq2 : q < ((opd N s).f A).s.c * sizeT P e
                  · obtain ⟨u, hu, hs⟩ := hl.cell q (by omega)
                    refine ⟨u, ?_, ?_⟩
                    · rw [World.cell?_setCells_out b news _ w _ (fun _ _ => show q < 0 + ((opd N s).f A).s.c * sizeT P e ∨ _ from .inl (by omega))]; exact hu
                    · show SR η ((accC q).f ((paste xo (((opd N s).f A).s.c * sizeT P e) (n * sizeT P e)).f xc (blkAt S ((opd N s).f A).s.a).cs)) u
                      rw [hpout q hq2]; exact hs
                  · obtain ⟨j, rfl⟩ : ∃ j, q = 0 + ((opd N s).f A).s.c * sizeT P e + j := ⟨q - ((opd N s).f A).s.c * sizeT P e, by omega⟩
                    have hj : j < news.length := by rw [hnl]; omega
                    refine ⟨news[j], World.cell?_setCells_in b news _ w hsome j hj, ?_⟩
                    show SR η ((accC (0 + ((opd N s).f A).s.c * sizeT P e + j)).f ((paste xo (((opd N s).f A).s.c * sizeT P e) (n * sizeT P e)).f xc (blkAt S ((opd N s).f A).s.a).cs)) news[j]
                    rw [Nat.zero_add, hpin j (by rw [← hnl]; exact hj)]
                    exact hnr j hj
                · have := VR.su (η := η.set S.next b (η.κ ((opd N s).f A).s.a)) (n := S.next) (b := b) 0 (len := ((opd N s).f A).s.c + n) (d := 0) (by simp [Nv.set]) (by simp [Nv.set]; omega)
                  rw [hcap]
                  show VR (η.set S.next b (η.κ ((opd N s).f A).s.a)) (mkSu S.next 0 (((opd N s).f A).s.c + n) 0) _
                  simpa [Nv.set] using this
              · have hM := rep_kill hR (n := ((opd N s).f A).s.a) hm
                exact grown hM.rep hM rfl (by omega) k4 (fun j hj => by rw [hb0, Nat.zero_add]; exact hpout j (by omega)) hpin
            · have hcap := h6c (by
                rcases or_ok h8 with h | h
                · exact beq_ok h
                · have := beq_ok h; exact absurd this (beq_no k1))
              rcases iff_ok k2 with ⟨k3, k4⟩ | ⟨k3, k4⟩
              · -- there is room
                obtain ⟨k5, k6⟩ := chk_ok k4
                cases k6
                have hroom : ((opd N s).f A).s.c + n ≤ cap := by rw [hcap]; exact ble_ok k3
                have hfit : ((opd N s).f A).s.b + (((opd N s).f A).s.c + n) * sizeT P e ≤ (blkAt S ((opd N s).f A).s.a).size := ble_ok k5
                have hnp : 0 < n * sizeT P e := Nat.mul_pos (by omega) (by omega)
                have hpos2 : 0 < (blkAt S ((opd N s).f A).s.a).size := by omega
                obtain ⟨b', hl⟩ := hR.live _ hm hpos2
                obtain rfl : b = b' := by have := hl.σ; rw [hb] at this; injection this
                have hbs := hl.size
                have hcp := hl.cap
                have hall : ∀ j, j < news.length → (w.cell? ⟨b, ((opd N s).f A).s.b + ((opd N s).f A).s.c * i.size + j, none⟩).isSome = true ∧ w.frozen? ⟨b, ((opd N s).f A).s.b + ((opd N s).f A).s.c * i.size + j, none⟩ = false := fun j hj => by
                  rw [← hsz]
                  exact hl.all _ (by omega)
                have hr := run_append_room_src (P := P) w t t2 ob.type e i hte hi b ((opd N s).f A).s.b ((opd N s).f A).s.c cap (a.eval x) n news hS hroom (fun j hj => (hall j hj).1) (fun j hj => (hall j hj).2)
                rw [← hsz] at hr
                refine ⟨rfl, _, _, _, .inl (hrun (by rw [es]; exact hr)), move_cells hR hm0 hm hpos2 hb (by omega) (fun j hj => ?_) (fun q hq hqo => ?_), ?_⟩
                · show SR η ((accC (((opd N s).f A).s.b + ((opd N s).f A).s.c * sizeT P e + j)).f ((paste xo (((opd N s).f A).s.b + ((opd N s).f A).s.c * sizeT P e) (n * sizeT P e)).f xc (blkAt S ((opd N s).f A).s.a).cs)) news[j]
                  rw [accC_paste _ _ _ _ _ (show ((opd N s).f A).s.b + ((opd N s).f A).s.c * sizeT P e + n * sizeT P e ≤ 32768 by omega) (by omega), if_pos (show ((opd N s).f A).s.b + ((opd N s).f A).s.c * sizeT P e ≤ _ ∧ _ < ((opd N s).f A).s.b + ((opd N s).f A).s.c * sizeT P e + n * sizeT P e by omega)]
                  have e0 : xo + (((opd N s).f A).s.b + ((opd N s).f A).s.c * sizeT P e + j - (((opd N s).f A).s.b + ((opd N s).f A).s.c * sizeT P e)) = xo + j := by omega
                  rw [e0]; exact hnr j hj
                · show (accC q).f ((paste xo (((opd N s).f A).s.b + ((opd N s).f A).s.c * sizeT P e) (n * sizeT P e)).f xc (blkAt S ((opd N s).f A).s.a).cs) = _
                  rw [accC_paste _ _ _ _ _ (show ((opd N s).f A).s.b + ((opd N s).f A).s.c * sizeT P e + n * sizeT P e ≤ 32768 by omega) (by omega), if_neg (show ¬ (((opd N s).f A).s.b + ((opd N s).f A).s.c * sizeT P e ≤ q ∧ q < ((opd N s).f A).s.b + ((opd N s).f A).s.c * sizeT P e + n * sizeT P e) by omega)]
                · have := VR.sl (η := η) (n := ((opd N s).f A).s.a) (b := b) ((opd N s).f A).s.b (len := ((opd N s).f A).s.c + n) (cap := cap) hb hroom
                  rw [hcap] at this ⊢
                  exact this
              · have hlt : cap < ((opd N s).f A).s.c + n := by rw [hcap]; exact ble_no k3
                obtain ⟨g1, g2, -, -⟩ := appendNew_ok k4
                have g1' : ((opd N s).f A).s.c * sizeT P e + n * sizeT P e ≤ 32768 := by rw [← hmul]; exact g1
                refine grown hR (Move.refl hR) rfl hlt k4 (fun j hj => ?_) (fun j hj => ?_)
                · show (accC j).f ((paste xo (((opd N s).f A).s.c * sizeT P e) (n * sizeT P e)).f xc ((subC ((opd N s).f A).s.b).f (blkAt S ((opd N s).f A).s.a).cs)) = _
                  rw [accC_paste _ _ _ _ _ g1' (by omega), if_neg (show ¬ (((opd N s).f A).s.c * sizeT P e ≤ j ∧ j < ((opd N s).f A).s.c * sizeT P e + n * sizeT P e) by omega), accC_sub _ _ _ (by omega)]
                · have e0 : xo + (((opd N s).f A).s.c * sizeT P e + j - ((opd N s).f A).s.c * sizeT P e) = xo + j := by omega
                  show (accC (((opd N s).f A).s.c * sizeT P e + j)).f ((paste xo (((opd N s).f A).s.c * sizeT P e) (n * sizeT P e)).f xc ((subC ((opd N s).f A).s.b).f (blkAt S ((opd N s).f A).s.a).cs)) = _
                  rw [accC_paste _ _ _ _ _ g1' (by omega), if_pos (by omega), e0]
    · exact chain_bad
  · exact chain_bad
end Go.Exec

namespace Go.Exec
open Go
variable {P : Program} {N : Nat} {ρ : Nat → Int} {H : Hy}
theorem len_run {η : Nv} {x : V} {u : Value} {n : Nat} (hv : VR η x u) (h : (isSl x = true ∧ n = x.s.c) ∨ (x.s.tag = 2 ∧ n = x.s.a) ∨ (x.s.tag = 5 ∧ n = 0)) (w : World) : (Builtin.lenOf u).run P w = .ok n w ∧ (Builtin.firstCells 0 0 u).run P w = .ok #[] w ∧ ∀ z, (Builtin.firstCells z 0 u).run P w = .ok #[] w := by
  rcases len_val hv h with ⟨b, cap, -, e, -⟩ | ⟨t, e, hn, -⟩ | ⟨e, hn, -⟩ <;> rw [e]
  · exact ⟨rfl, by simp [Builtin.firstCells, loadCells, loadCellsFrom], fun z => by simp [Builtin.firstCells, loadCells, loadCellsFrom]⟩
  · have hts : t.size = n := by rw [hn]; simp
    exact ⟨by simp [Builtin.lenOf, hts], by simp [Builtin.firstCells], fun z => by simp [Builtin.firstCells]⟩
  · subst hn; exact ⟨rfl, by simp [Builtin.firstCells], fun z => by simp [Builtin.firstCells]⟩
theorem run_copy_of {t e : TypeId} {tys : Array TypeId} {ty : TypeId} {i : TypeInfo} (ht : tys[0]? = some t) (hd : desc P t = .slice e) (hi : P.info? e = some i) {x : Value} {base : Option Addr} {xn dn cap : Nat} {cells : List Value} {w w' : World}
    (hl : (Builtin.lenOf x).run P w = .ok xn w) (hc : (Builtin.firstCells i.size (Nat.min xn dn) x).run P w = .ok cells.toArray w) (hs : ∀ a, base = some a → (storeCells a cells).run P w = .ok () w') (hn : base = none → w' = w) :
    (Builtin.copy_ tys ty #[.slice base dn cap, x]).run P w = .ok (goInt (Nat.min xn dn)) w' := by
  unfold Builtin.copy_
  simp only [ht]
  cases base with
  | none =>
    rw [hn rfl]
    simp [run_under hd (by simp), hl, run_sizeOf' hi, hc]
  | some b =>
    have := hs b rfl
    simp [run_under hd (by simp), hl, run_sizeOf' hi, hc, this]
theorem copy_ok {t : TypeId} {ts : List TypeId} {d x : Operand} {c : Call} (hc : c.callee = .builtin .copy) (hx : c.args.toList = [d, x]) (ht : c.argTypes.toList = t :: ts) : ChainOk P N ρ (.call c) (copyC P N t d x) := by
  obtain ⟨cal, args, tys⟩ := c
  simp only at hc hx ht
  subst hc
  obtain rfl : args = #[d, x] := Array.ext' (by simpa using hx)
  have ht' : tys[0]? = some t := by rw [← Array.getElem?_toList, ht]; rfl
  unfold copyC
  split
  · rename_i e hd
    split
    · rename_i z hz
      obtain ⟨i, v0, hi, hv0, hpos, hsz, hvs, -⟩ := repC_ok hz
      refine mem_chain fun call A S v S' η a w ob _ ho hop hR h => ?_
      simp only at h
      have hvd := hop d (by simp [Op.operands, Call.operands])
      have hvx := hop x (by simp [Op.operands, Call.operands])
      have hrun : ∀ {y w'}, (Builtin.copy_ tys ob.type #[a.eval d, a.eval x]).run P w = .ok y w' → (execOp a.eval ob).run P w = .ok (.value y) w' := fun {y w'} hr => by
        rw [exec_builtin a ob ho w]
        simp [builtin, hr]
      obtain ⟨xn, h1, -, hlx⟩ := lenV_ok h
      obtain ⟨dn, h2, -, hld⟩ := lenV_ok h1
      obtain ⟨lx1, -, lx3⟩ := len_run (P := P) hvx hlx w
      rcases iff_ok h2 with ⟨h3, h4⟩ | ⟨h3, h4⟩
      · have hn0 : min xn dn = 0 := beq_ok h3
        obtain ⟨h5, h6⟩ := chk_ok h4
        cases h6
        refine ⟨rfl, goInt 0, η, w, .inl (hrun ?_), Move.refl hR, VR.i64 (n := 0) (by omega)⟩
        rcases or_ok h5 with h7 | h7
        · obtain ⟨b, cap, -, ed, -, -, -⟩ := isSl_ok h7 hvd
          have hdn : dn = ((opd N d).f A).s.c := by
            rcases hld with ⟨_, hl⟩ | ⟨ht, _⟩ | ⟨ht, _⟩
            · exact hl
            · rcases or_ok h7 with h | h <;> have := beq_ok h <;> omega
            · rcases or_ok h7 with h | h <;> have := beq_ok h <;> omega
          have := run_copy_of (P := P) (ty := ob.type) ht' hd hi (x := a.eval x) (base := some ⟨b, ((opd N d).f A).s.b, none⟩) (xn := xn) (dn := dn) (cap := cap) (cells := []) (w := w) (w' := w) lx1 (by rw [show Nat.min xn dn = 0 from hn0]; exact lx3 i.size) (fun _ _ => rfl) (fun h => by cases h)
          rw [show Nat.min xn dn = 0 from hn0] at this
          rw [ed, ← hdn]; exact this
        · have ed := (hvd.asSc (by rw [beq_ok h7]; omega)).asNils (beq_ok h7)
          have hdn : dn = 0 := by
            rcases hld with ⟨hs, _⟩ | ⟨ht, _⟩ | ⟨_, hl⟩
            · rcases or_ok hs with h | h <;> have := beq_ok h <;> have := beq_ok h7 <;> omega
            · have := beq_ok h7; omega
            · exact hl
          have := run_copy_of (P := P) (ty := ob.type) ht' hd hi (x := a.eval x) (base := none) (xn := xn) (dn := dn) (cap := 0) (cells := []) (w := w) (w' := w) lx1 (by rw [show Nat.min xn dn = 0 from hn0]; exact lx3 i.size) (fun _ h => by cases h) (fun _ => rfl)
          rw [show Nat.min xn dn = 0 from hn0] at this
          rw [ed]
          rw [hdn] at this
          exact this
      · have hn0 : min xn dn ≠ 0 := beq_no h3
        obtain ⟨xc, xo, h5, h6⟩ := first_cells (P := P) hn0 hpos h4
        obtain ⟨h7, h8⟩ := chk_ok h5
        obtain ⟨h9, h10⟩ := chk_ok h8
        obtain ⟨h11, h12⟩ := and_ok h9
        cases h10
        obtain ⟨news, g1, g2, g3, g4⟩ := h6 η w _ xn hvx hR hlx (Nat.min_le_left _ _)
        obtain ⟨b, cap, hb, ed, -, -, -⟩ := isSl_ok h7 hvd
        have hdn : dn = ((opd N d).f A).s.c := by
          rcases hld with ⟨_, hl⟩ | ⟨ht, _⟩ | ⟨ht, _⟩
          · exact hl
          · rcases or_ok h7 with h | h <;> have := beq_ok h <;> omega
          · rcases or_ok h7 with h | h <;> have := beq_ok h <;> omega
        obtain ⟨hm0, hm⟩ := wrN_ok h11
        have hfit : ((opd N d).f A).s.b + min xn dn * sizeT P e ≤ (blkAt S ((opd N d).f A).s.a).size := ble_ok h12
        have hnp : 0 < min xn dn * sizeT P e := Nat.mul_pos (by omega) (by omega)
        have hpos2 : 0 < (blkAt S ((opd N d).f A).s.a).size := by omega
        obtain ⟨b', hl⟩ := hR.live _ hm hpos2
        obtain rfl : b = b' := by have := hl.σ; rw [hb] at this; injection this
        have hbs := hl.size
        have h1s : min xn dn * 1 ≤ min xn dn * sizeT P e := Nat.mul_le_mul_left _ hpos
        have hst := run_storeCells_live (P := P) hl (o := ((opd N d).f A).s.b) (vs := news) (by rw [g2]; exact hfit) (fun u hu => by
          obtain ⟨j, hj, rfl⟩ := List.getElem_of_mem hu
          exact (g4 j hj).one)
        have hr := run_copy_of (P := P) (ty := ob.type) ht' hd hi (x := a.eval x) (base := some ⟨b, ((opd N d).f A).s.b, none⟩) (xn := xn) (dn := dn) (cap := cap) (cells := news) (w := w) lx1 (by rw [← hsz]; exact g1) (fun a' ha => by cases ha; exact hst) (fun h => by cases h)
        refine ⟨rfl, goInt (Nat.min xn dn), η, _, .inl (hrun (by rw [ed, ← hdn]; exact hr)), move_cells hR hm0 hm hpos2 hb (by rw [g2]; exact hfit) (fun j hj => ?_) (fun q hq hqo => ?_), VR.i64 (show min xn dn < _ by omega)⟩
        · show SR η ((accC (((opd N d).f A).s.b + j)).f ((paste xo ((opd N d).f A).s.b (min xn dn * sizeT P e)).f xc (blkAt S ((opd N d).f A).s.a).cs)) news[j]
          have hj' : j < min xn dn * sizeT P e := by rw [← g2]; exact hj
          have e0 : xo + (((opd N d).f A).s.b + j - ((opd N d).f A).s.b) = xo + j := by omega
          rw [accC_paste _ _ _ _ _ (by omega) (by omega), if_pos (by omega), e0]
          exact g4 j hj
        · show (accC q).f ((paste xo ((opd N d).f A).s.b (min xn dn * sizeT P e)).f xc (blkAt S ((opd N d).f A).s.a).cs) = _
          have hqo' : q < ((opd N d).f A).s.b ∨ ((opd N d).f A).s.b + min xn dn * sizeT P e ≤ q := by rw [← g2]; exact hqo
          rw [accC_paste _ _ _ _ _ (by omega) (by omega), if_neg (by omega)]
    · exact chain_bad
  · exact chain_bad
end Go.Exec

namespace Go.Exec
open Go
variable {P : Program} {N : Nat} {ρ : Nat → Int} {H : Hy}
theorem convSB_ok {src dst e : TypeId} {x : Operand} (hs : desc P src = .string) (hd : desc P dst = .slice e) (he : desc P e = .int .u8) (h1 : sizeT P e = 1) : ChainOk P N ρ (.convert src dst x) ⟨fun _ A S => chk (Nat.beq ((opd N x).f A).s.tag 2) (force ((opd N x).f A).s.a (fun l => appendNew P e 0 l (tabC (byteSc ((opd N x).f A).s.b)) S) .no)⟩ := by
  refine mem_chain fun call A S v S' η a w ob _ ho hop hR h => ?_
  simp only at h
  obtain ⟨h2, h3⟩ := chk_ok h
  obtain ⟨t, ex, ha, hb⟩ := ((hop x (by simp [Op.operands])).asSc (by rw [beq_ok h2]; omega)).asStr (beq_ok h2)
  obtain ⟨g1, g2, rfl, rfl⟩ := appendNew_ok h3
  have hr := run_bytes_of_string (P := P) w src dst e t (desc_ok hs (by simp)) (desc_ok hd (by simp)) (desc_ok he (by simp))
  have hts : t.size = ((opd N x).f A).s.a := by rw [ha]; simp
  have hge := grownCap_ge w t.size 0 e
  have hsz : (bytesRow t (grownCap w t.size 0 e)).size = grownCap w t.size 0 e * sizeT P e := by
    rw [h1, Nat.mul_one]
    unfold bytesRow
    simp only [Array.size_append, Array.size_map, Array.size_replicate]
    have : t.data.size = t.size := rfl
    omega
  have hm := (move_drew hR).trans (move_new (P := P) (cs := tabC (byteSc ((opd N x).f A).s.b)) (z := (0 + ((opd N x).f A).s.a) * sizeT P e) (lo := (bytesRow t (grownCap w t.size 0 e)).size) (hi := (bytesRow t (grownCap w t.size 0 e)).size + 1) hR.drew g2 g1 hsz (by rw [hsz, h1]; omega) (.inl (Nat.le_refl _)) (fun i y hi hy => by
    rw [h1] at hi g1
    have hi' : i < t.data.size := by show i < t.size; omega
    unfold bytesRow at hy
    rw [Array.getElem?_append_left (by simpa using hi')] at hy
    rw [accC_tabC _ (by omega)]
    have hy' : y = .int .u8 (t.data[i].toNat : Int) := by
      rw [Array.getElem?_map, Array.getElem?_eq_getElem hi'] at hy
      simp at hy; exact hy.symm
    have hby : byteAt ((opd N x).f A).s.b i = t.data[i].toNat := by rw [hb]; exact strOf_byte _ i _ (by simp)
    have hlt := t.data[i].toNat_lt
    have := SR.int (η := η) (s := byteSc ((opd N x).f A).s.b i) .u8 rfl (by show byteAt _ i < 256; rw [hby]; exact hlt)
    rw [show (byteSc ((opd N x).f A).s.b i).a = t.data[i].toNat from hby, IntWalk.u8_in _ (by omega)] at this
    rw [hy']; exact this) S.ds)
  refine ⟨rfl, .slice (some ⟨w.heap.size, 0, none⟩) t.size (grownCap w t.size 0 e), _, _, .inl ?_, hm, ?_⟩
  · simp only [execOp, ho, ex, Sem.run_bind, hr, Result.andThen_ok]
    rfl
  · have := VR.su (η := η.set S.next w.heap.size (grownCap w t.size 0 e)) (n := S.next) (b := w.heap.size) 0 (len := 0 + ((opd N x).f A).s.a) (d := 0) (by simp [Nv.set]) (by simp [Nv.set]; omega)
    have e2 : 0 + ((opd N x).f A).s.a = t.size := by omega
    rw [e2] at this ⊢
    simpa [Nv.set] using this
/-- Bytes read as a number. -/
theorem gather_ok {c : Cells} {o : Nat} : ∀ {n a : Nat} {k : Nat → Ans} {v : V} {S : St}, (Nat.rec (motive := fun _ => Nat → Ans) (fun a => force a k .no) (fun m ih a => force (Nat.add o m) (fun i => chk (Nat.beq ((accC i).f c).tag 20) (force (Nat.add (Nat.mul 256 a) ((accC i).f c).a) ih .no)) .no) n a) = Ans.ok v S →
    ∃ r, k r = .ok v S ∧ (∀ k' : Nat → Ans, (Nat.rec (motive := fun _ => Nat → Ans) (fun a => force a k' .no) (fun m ih a => force (Nat.add o m) (fun i => chk (Nat.beq ((accC i).f c).tag 20) (force (Nat.add (Nat.mul 256 a) ((accC i).f c).a) ih .no)) .no) n a) = k' r) ∧
      (∀ j, j < n → ((accC (o + j)).f c).tag = 20) ∧ ∀ bs : List UInt8, bs.length = n → (∀ j (hj : j < bs.length), ((accC (o + j)).f c).a = bs[j].toNat) → r = strOf bs + 256 ^ n * a := by
  intro n
  induction n with
  | zero => intro a k v S h; exact ⟨a, h, fun _ => rfl, fun j hj => by omega, fun bs hb _ => by
      have : bs = [] := List.eq_nil_of_length_eq_zero hb
      subst this; simp [strOf]⟩
  | succ m ih =>
    intro a k v S h
    obtain ⟨h1, h2⟩ := chk_ok (b := Nat.beq ((accC (Nat.add o m)).f c).tag 20) h
    obtain ⟨r, h3, h4, h5, h6⟩ := ih (a := Nat.add (Nat.mul 256 a) ((accC (Nat.add o m)).f c).a) h2
    refine ⟨r, h3, fun k' => ?_, fun j hj => ?_, fun bs hb hbs => ?_⟩
    · show chk (Nat.beq ((accC (Nat.add o m)).f c).tag 20) _ = _
      rw [h1]; exact h4 k'
    · rcases Nat.lt_or_ge j m with h' | h'
      · exact h5 j h'
      · have : j = m := by omega
        subst this; exact beq_ok h1
    · have hd : (bs.take m).length = m := by simp; omega
      have := h6 (bs.take m) hd (fun j hj => by
        have hj' : j < m := by rw [hd] at hj; exact hj
        rw [hbs j (by omega)]; simp)
      rw [this]
      have hlast := hbs m (by omega)
      have hsplit : bs = bs.take m ++ [bs[m]] := by
        rw [← List.take_succ_eq_append_getElem (by omega), List.take_of_length_le (by omega)]
      have h7 : strOf bs = strOf (bs.take m) + 256 ^ m * strOf [bs[m]] := by
        conv => lhs; rw [hsplit]
        rw [strOf_app, hd]
      rw [h7]
      have h8 : strOf [bs[m]] = bs[m].toNat := by simp [strOf]
      rw [h8, ← hlast, Nat.pow_succ]
      show strOf (bs.take m) + 256 ^ m * (256 * a + ((accC (o + m)).f c).a) = _
      rw [Nat.mul_add, Nat.mul_assoc]
      omega
theorem foldl_push (bs : List UInt8) : ∀ (acc : ByteArray), ((bs.map fun b => (b.toNat : Int)).foldl (fun r n => r.push (UInt8.ofNat n.toNat)) acc).data.toList = acc.data.toList ++ bs := by
  induction bs with
  | nil => intro acc; simp
  | cons b r ih =>
    intro acc
    simp only [List.map_cons, List.foldl_cons]
    rw [ih]
    simp
theorem convBS_ok {src dst e : TypeId} {x : Operand} (hs : desc P src = .slice e) (hd : desc P dst = .string) (he : desc P e = .int .u8) : LoadOk P N (.convert src dst x) ⟨fun _ A S => lenV ((opd N x).f A) (fun n => chk (Bool.not (Nat.beq ((opd N x).f A).s.tag 2)) (iff (Nat.beq n 0) (.ok (vS ⟨2, 0, 0, 0, 0, [], []⟩) S) (firstC 1 n S ((opd N x).f A) (fun c o => gather c o n (fun s => .ok (vS ⟨2, n, s, 0, 0, [], []⟩) S)))))⟩ := by
  intro call A S v S' h
  simp only at h ⊢
  obtain ⟨n, g1, g2, hlen⟩ := lenV_ok h
  obtain ⟨g3, g4⟩ := chk_ok g1
  have hnt := beq_no (not_ok g3)
  rcases iff_ok g4 with ⟨g5, g6⟩ | ⟨g5, g6⟩
  · cases g6
    have hn0 := beq_ok g5
    subst hn0
    refine ⟨rfl, fun _ => h, fun η a w ob ho hop hR => ?_⟩
    have hx := hop x (by simp [Op.operands])
    refine ⟨.string ByteArray.empty, ?_, .sc (.str (s := ⟨2, 0, 0, 0, 0, [], []⟩) _ rfl rfl rfl)⟩
    rcases len_val hx hlen with ⟨b, cap, -, ex, -⟩ | ⟨t, ex, hn, ht, -⟩ | ⟨ex, -, -⟩
    · have hr := run_convert_bytes_string (P := P) w src dst e (some ⟨b, ((opd N x).f A).s.b, none⟩) 0 cap (desc_ok hs (by simp)) (desc_ok he (by simp)) (desc_ok hd (by simp))
      have hb := run_bytesToString (P := P) w ⟨b, ((opd N x).f A).s.b, none⟩ 0 cap [] (by simp [loadCells, loadCellsFrom])
      rw [hb] at hr
      simp only [execOp, ho, ex, Sem.run_bind, hr, Result.andThen_ok]
      rfl
    · exact absurd ht hnt
    · have hr := run_convert_bytes_string (P := P) w src dst e none 0 0 (desc_ok hs (by simp)) (desc_ok he (by simp)) (desc_ok hd (by simp))
      simp only [Conv.bytesToString, Sem.run_pure] at hr
      simp only [execOp, ho, ex, Sem.run_bind, hr, Result.andThen_ok]
      rfl
  · have hn0 := beq_no g5
    obtain ⟨c, o, g7, g8⟩ := first_cells (P := P) hn0 (Nat.le_refl 1) g6
    obtain ⟨r, g9, g10, g11, g12⟩ := gather_ok (a := 0) g7
    cases g9
    refine ⟨rfl, fun _ => h, fun η a w ob ho hop hR => ?_⟩
    have hx := hop x (by simp [Op.operands])
    obtain ⟨news, k1, k2, k3, k4⟩ := g8 η w _ n hx hR hlen (Nat.le_refl _)
    rw [Nat.mul_one] at k2 k3
    let f : Nat → UInt8 := fun j => UInt8.ofNat ((accC (o + j)).f c).a
    have hel : ∀ j (hj : j < news.length), news[j] = .int .u8 (((f j).toNat : Nat) : Int) ∧ ((accC (o + j)).f c).a = (f j).toNat := fun j hj => by
      obtain ⟨e1, e2⟩ := (k4 j hj).asInt (k := .u8) (g11 j (by omega))
      have e3 : (f j).toNat = ((accC (o + j)).f c).a := by
        show (UInt8.ofNat _).toNat = _
        simp
        exact e2
      rw [e1, e3]
      exact ⟨by rw [IntWalk.u8_in _ (by have : ((accC (o + j)).f c).a < 256 := e2; omega)], rfl⟩
    have hbs : ((List.range n).map f).length = n := by simp
    have hnews : news = (((List.range n).map f).map fun b => (b.toNat : Int)).map (Value.int .u8) := by
      apply List.ext_getElem
      · simp [k2]
      · intro j h1 h2
        rw [(hel j h1).1]; simp
    have hr' := g12 ((List.range n).map f) hbs (fun j hj => by
      rw [(hel j (by rw [k2]; rw [hbs] at hj; exact hj)).2]; simp)
    rw [Nat.mul_zero, Nat.add_zero] at hr'
    rcases len_val hx hlen with ⟨b, cap, -, ex, -⟩ | ⟨t, ex, hn, ht, -⟩ | ⟨ex, hn, -⟩
    · have hr := run_convert_bytes_string (P := P) w src dst e (some ⟨b, ((opd N x).f A).s.b, none⟩) n cap (desc_ok hs (by simp)) (desc_ok he (by simp)) (desc_ok hd (by simp))
      rw [ex] at k1
      have k1' : (loadCells ⟨b, ((opd N x).f A).s.b, none⟩ n).run P w = .ok news.toArray w := by
        simp only [Builtin.firstCells, Nat.mul_one] at k1; exact k1
      rw [hnews] at k1'
      have hb := run_bytesToString (P := P) w ⟨b, ((opd N x).f A).s.b, none⟩ n cap _ k1'
      rw [hb] at hr
      have hfp := foldl_push ((List.range n).map f) ByteArray.empty
      refine ⟨_, by simp only [execOp, ho, ex, Sem.run_bind, hr, Result.andThen_ok]; rfl, .sc (.str (s := ⟨2, n, r, 0, 0, [], []⟩) _ rfl ?_ ?_)⟩
      · rw [hfp]; simp
      · rw [hfp]; simpa using hr'
    · exact absurd ht hnt
    · exact absurd hn hn0
end Go.Exec
