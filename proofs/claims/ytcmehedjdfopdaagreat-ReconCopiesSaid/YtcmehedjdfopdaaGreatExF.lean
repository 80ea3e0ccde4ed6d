/-
  A runner of the model's code inside Lean, with the proof that it is right: regions that draw their order; given functions; closed runs. Nothing here is of this program.
-/
import Derived.Test.YtcmehedjdfopdaaGreatExE
import Derived.Lib.LaidTab
namespace Go.Exec
open Go
variable {P : Program} {N : Nat} {ρ : Nat → Int} {H : Hy}
variable {mth : Nat → String → Option Nat} {ops : Array Oper} {call : Caller} {k n0 h0 m sure j : Nat} {lds : List (Nat × Oper)} {alc : List Alc} {A : Env} {Z S : St} {L : Array Bool} {η : Nv} {a : Act} {w : World}
/-- The next of the chain comes. -/
theorem EI.chain (h : EI False H P ρ mth N ops call k n0 h0 m sure lds j alc A Z S L η a w) (hok : OkOps P N ops) (hmth : MthOk P mth) (hcal : Cal P ρ call) {i : Nat} {o : Oper} (ho : ops[i]? = some o) (hm : bit m i = false) (hr : ∀ x ∈ edges o, L.getD x false = true)
    {u : V} {S1 : St} (hu : (gopC H P mth N ops.toList o).f call A S (fun v S => .ok v S) = .ok u S1)
    (hrk : ∀ p ∈ (lds.filter fun p => Bool.not (bit (clos ops.toList 4096 (edges o) sure) p.1)), ∃ v S2, (gopC H P mth N ops.toList p.2).f call ((put N o.dst).f u A) S1 (fun v S => .ok v S) = .ok v S2 ∧ sameD N p.2.dst v ((put N o.dst).f u A) = true)
    (next : Act → World → Prop) (Q : Exit → Act → World → Prop)
    (hn : ∀ ζ a' w', Move P η S w ζ S1 w' → EI True H P ρ mth N ops call k n0 h0 (setb m i) (setb (clos ops.toList 4096 (edges o) sure) i) (lds.filter fun p => Bool.not (bit (clos ops.toList 4096 (edges o) sure) p.1)) j alc ((put N o.dst).f u A) Z S1 (L.setIfInBounds i true) ζ a' w' → next a' w') : wpOp P ops Q i next a w := by
  have hH := h.hH
  obtain ⟨s1, s2⟩ := h.seen hok ho hr (A0 := A) (fun _ _ _ => rfl)
  have hi : i < L.size := by rw [h.lsz]; exact (Array.getElem?_eq_some_iff.1 ho).1
  have hg : ∀ j, (L.setIfInBounds i true).getD j false = true ↔ j = i ∨ L.getD j false = true := fun j => getD_set hi
  have hgf : ∀ j, (L.setIfInBounds i true).getD j false = false → L.getD j false = false := fun j hj => by
    cases hh : L.getD j false with
    | false => rfl
    | true => rw [(hg j).2 (.inr hh)] at hj; cases hj
  have hb : ∀ j, bit (setb m i) j = true ↔ bit m j = true ∨ i = j := fun j => by rw [bit_setb, Bool.or_eq_true, decide_eq_true_iff]
  have hclos : ∀ j, bit (clos ops.toList 4096 (edges o) sure) j = true → L.getD j false = true := clos_ok (L := fun x => L.getD x false = true) (fun x hx y hy => by
    unfold edgesAt at hy
    split at hy
    · rename_i p hp
      rw [Array.getElem?_toList] at hp
      exact h.clo x p hp hx y hy
    · cases hy) 4096 (edges o) sure hr h.sur
  have hle := h.le
  have hqi : ∀ q ∈ alc, (L.setIfInBounds i true).getD q.1 false = L.getD q.1 false := fun q hq => getD_set_ne false (fun e => by
    have := (h.alow q hq).2.2.1
    rw [← e, hm] at this; cases this)
  refine gop_ok hH hmth hcal ho h.size s1 s2 h.rep h.dr h.rho hu next Q (fun y ζ w' d' hmv hv hd => hn ζ _ w' hmv ?_)
  obtain ⟨m1, m2, m3, m4, m5⟩ := h.moved hmv
  refine ⟨by simpa using h.lsz, fun j hj => ?_, fun j p hp hj x hx => (hg x).2 (.inr ?_), fun j p hp hj x hx => ?_, fun j hj => ?_, fun j p hp hj hL' => ?_, fun p hp => h.lok p (List.mem_filter.1 hp).1, by rw [put_size]; exact h.size, h.le, fun t ht hw => ?_, hmv.rep, by rw [put_defers]; exact hd, hmv.ext.le.ρ.trans h.rho, hH,
    m1, h.bot, h.jk, m2, m3, fun q hq => ?_, h.aun, h.aone, fun q hq q' hq' b => by rw [m4 q hq, m4 q' hq']; exact h.ainj q hq q' hq' b, fun q hq hL => ?_, fun q hq hL => m5 q hq (by rw [← hqi q hq]; exact hL), fun b hb => h.fh b (hmv.ext.le.F ▸ hb)⟩
  · rcases (hg j).1 hj with rfl | h1
    · exact (hb j).2 (.inr rfl)
    · exact (hb j).2 (.inl (h.sub j h1))
  · rcases (hg j).1 hj with rfl | h1
    · rw [ho] at hp; cases hp; exact hr x hx
    · exact h.clo j p hp h1 x hx
  · rcases (hb j).1 hj with h1 | rfl
    · exact (hb x).2 (.inl (h.dclo j p hp h1 x hx))
    · rw [ho] at hp; cases hp
      exact (hb x).2 (.inl (h.sub x (hr x hx)))
  · rw [bit_setb] at hj
    rcases Bool.or_eq_true _ _ ▸ hj with h1 | h1
    · exact (hg j).2 (.inr (hclos j h1))
    · exact (hg j).2 (.inl (of_decide_eq_true h1).symm)
  · have hLj := hgf j hL'
    have hj' : bit m j = true := by
      rcases (hb j).1 hj with h1 | rfl
      · exact h1
      · rw [(hg i).2 (.inl rfl)] at hL'; cases hL'
    obtain ⟨k1, k2⟩ := h.apart hok ho hm u hp hj' (.inr ⟨hLj, hr⟩)
    rcases h.pen j p hp hj' hLj with ⟨hk, A0, v, e1, e2, e3⟩ | ⟨hk, hmem, -⟩ | ⟨hk, jj, hmem⟩
    · refine .inl ⟨hk, Rdy.keep ⟨A0, v, e1, (gopC_float (ρ := ρ) hH (.inl hk) e2).2 hk S1, e3⟩ k1 k2⟩
    · have hin : (j, p) ∈ (lds.filter fun p => Bool.not (bit (clos ops.toList 4096 (edges o) sure) p.1)) := by
        refine List.mem_filter.2 ⟨hmem, ?_⟩
        cases hh : bit (clos ops.toList 4096 (edges o) sure) j with
        | false => rfl
        | true => rw [hclos j hh] at hLj; cases hLj
      obtain ⟨v', S2, k1, k2⟩ := hrk _ hin
      have hS := (gopC_float (ρ := ρ) hH (.inr hk) k1).1
      subst hS
      refine .inr (.inl ⟨hk, hin, fun _ => ⟨_, v', fun t _ _ => rfl, k1, fun d hd ζ y hy => ?_⟩⟩)
      unfold sameD at k2
      simp only [hd] at k2
      exact sameV_ok k2 hy
    · exact .inr (.inr ⟨hk, jj, hmem⟩)
  · by_cases hdt : o.dst = some t
    · rw [hdt, tmps_put_same (by rw [h.size]; exact ht), acc_put_same ht]
      exact hv
    · rw [tmps_put_ne hdt, acc_put_ne (by omega) hle hdt]
      refine (h.aw t ht fun j p hp hpd hj => ?_).up hmv.ext.le
      rcases (hg j).1 (hw j p hp hpd ((hb j).2 (.inl hj))) with rfl | h1
      · rw [ho] at hp; cases hp; exact absurd hpd hdt
      · exact h1
  · obtain ⟨h1, h2, h3, h4, h5, h6⟩ := h.alow q hq
    exact ⟨h1, h2, (hb _).2 (.inl h3), h4, h5, h6⟩
  · have hL' := hgf _ hL
    obtain ⟨-, h2, h3, -⟩ := h.alow q hq
    obtain ⟨k1, k2⟩ := h.apart hok ho hm u h2 h3 (.inr ⟨hL', hr⟩)
    obtain ⟨h4, A0, u', e1, e2, e3⟩ := h.anew q hq hL'
    exact ⟨by rw [m4 q hq]; exact h4, A0, u', fun t ht hN => by rw [e1 t ht hN, k1 t ht hN], e2, fun d hd ζ y hy => by rw [k2 d hd]; exact e3 d hd ζ y hy⟩
theorem EI.stuck {fl : Prop} (h : EI fl H P ρ mth N ops call k n0 h0 m sure lds j alc A Z S L η a w) (hok : OkOps P N ops) (hs : Region.ready .any ops L = []) : ∀ i, i < ops.size → bit m i = true → L.getD i false = true := by
  intro i
  induction i using Nat.strongRecOn with
  | ind i ih =>
    intro hi hm
    cases hL : L.getD i false with
    | true => rfl
    | false =>
      have ho : ops[i]? = some ops[i] := Array.getElem?_eq_getElem hi
      have : i ∈ Region.ready .any ops L := by
        rw [mem_ready]
        refine ⟨?_, _, ho, fun e he hb => ?_⟩
        · rw [getD_at (by rw [h.lsz]; exact hi)] at hL ⊢; exact hL
        · have hx : e.on ∈ edges ops[i] := mem_edges.2 ⟨e, he, hb, rfl⟩
          have hlt := hok.low i _ ho _ hx
          exact ih _ hlt (by omega) (h.dclo i _ ho hm _ hx)
      rw [hs] at this; cases this
theorem drawE_main (hok : OkOps P N ops) (hmth : MthOk P mth) (hcal : Cal P ρ call) {Q : Exit → Act → World → Prop} {v : V} {T : St} {K : Env → St → Ans} {η0 : Nv} {S0 : St} {w0 : World} (hh : h0 = w0.heap.size) (hn0 : n0 = S0.next)
    (hK : ∀ A' S' a' w' ζ, Move P η0 S0 w0 ζ S' w' → RS P ρ ζ N A' S' a' w' → K A' S' = .ok v T → Q .normal a' w') : ∀ (fuel : Nat) (order : List Nat) (m sure : Nat) (lds : List (Nat × Oper)) (j : Nat) (alc : List Alc) (A : Env) (Z S : St) (L : Array Bool) (η : Nv) (a : Act) (w : World),
    EI True H P ρ mth N ops call k n0 h0 m sure lds j alc A Z S L η a w → cntF L.toList ≤ fuel → (drawE H P mth N ops.toList k order m sure lds j alc).f call n0 A Z S K = .ok v T → Move P η0 S0 w0 η S w → wpAny P .any ops Q fuel L a w := by
  -- the end of a region
  have fin : ∀ {m sure : Nat} {lds : List (Nat × Oper)} {j : Nat} {alc : List Alc} {A : Env} {Z S : St} {L : Array Bool} {η : Nv} {a : Act} {w : World}, EI True H P ρ mth N ops call k n0 h0 m sure lds j alc A Z S L η a w → (∀ i, i < ops.size → L.getD i false = true) → commit alc n0 Z S (fun S => K A S) = .ok v T → Move P η0 S0 w0 η S w → Q .normal a w := by
    intro m sure lds j alc A Z S L η a w h hall hr hmv
    have hL : ∀ q ∈ alc, L.getD q.1 false = true := fun q hq => hall _ (Array.getElem?_eq_some_iff.1 (h.alow q hq).2.1).1
    obtain ⟨S', h1, h2, h3⟩ := commit_ok hh alc True S alc h h.aun (fun q hq => ⟨hq, hL q hq⟩) [] .nil (fun x hx => by cases hx) (fun x hx hLx => by rw [hL x hx] at hLx; cases hLx) hmv hr
    exact hK A S' a w η h3 ⟨⟨h.size, h.le, fun t ht => h.aw t ht fun i o ho _ _ => hall i (Array.getElem?_eq_some_iff.1 ho).1⟩, h2.rep, h2.dr, h.rho⟩ h1
  intro fuel
  induction fuel with
  | zero =>
    intro order
    induction order with
    | nil =>
      intro m sure lds j alc A Z S L η a w h hc hr hmv
      have hall : ∀ i, i < ops.size → L.getD i false = true := fun i hi => by
        have hl : i < L.size := by rw [h.lsz]; exact hi
        rw [getD_at hl]
        have := cntF_zero L.toList i (by omega)
        rw [Array.getElem?_toList, Array.getElem?_eq_getElem hl] at this
        cases hh : L[i] with
        | true => rfl
        | false => rw [hh] at this; exact absurd rfl this
      unfold drawE at hr
      refine ⟨?_, ?_⟩
      · cases hrd : Region.ready .any ops L with
        | nil => rfl
        | cons i r =>
          have hi : i ∈ Region.ready .any ops L := by rw [hrd]; simp
          obtain ⟨h1, o, ho, -⟩ := mem_ready.1 hi
          have hlt := (Array.getElem?_eq_some_iff.1 ho).1
          have := hall i hlt
          rw [getD_at (by rw [h.lsz]; exact hlt)] at h1 this
          rw [h1] at this; cases this
      · cases hb : (List.range ops.toList.length).all (bit m) with
        | false => rw [hb] at hr; cases hr
        | true =>
          rw [hb] at hr
          exact fin h hall hr hmv
    | cons i r ih =>
      intro m sure lds j alc A Z S L η a w h hc hr hmv
      unfold drawE at hr
      cases ho' : ops.toList[i]? with
      | none => rw [ho'] at hr; cases hr
      | some o =>
        rw [ho'] at hr
        have ho : ops[i]? = some o := by rw [← Array.getElem?_toList]; exact ho'
        simp only at hr
        cases hb : Bool.and (Bool.not (bit m i)) (readyB m o) with
        | false => rw [hb] at hr; cases hr
        | true =>
          obtain ⟨hb1, hb2⟩ := and_ok hb
          have hm := not_ok hb1
          exfalso
          have hlt := (Array.getElem?_eq_some_iff.1 ho).1
          have hl : i < L.size := by rw [h.lsz]; exact hlt
          have := cntF_zero L.toList i (by omega)
          rw [Array.getElem?_toList, Array.getElem?_eq_getElem hl] at this
          have hLi : L.getD i false = true := by
            rw [getD_at hl]
            cases hh : L[i] with
            | true => rfl
            | false => rw [hh] at this; exact absurd rfl this
          rw [h.sub i hLi] at hm; cases hm
  | succ fuel ihf =>
    intro order
    induction order with
    | nil =>
      intro m sure lds j alc A Z S L η a w h hc hr hmv
      have hr0 := hr
      unfold drawE at hr
      cases hb : (List.range ops.toList.length).all (bit m) with
      | false => rw [hb] at hr; cases hr
      | true =>
        rw [hb] at hr
        have hall : ∀ i, i < ops.size → bit m i = true := fun i hi => List.all_eq_true.1 hb i (List.mem_range.2 (by simpa using hi))
        refine ⟨fun hs => ?_, fun i hi => ?_⟩
        · exact fin h (fun i hi => h.stuck hok hs i hi (hall i hi)) hr hmv
        · obtain ⟨h1, o, ho, h2⟩ := mem_ready.1 hi
          have hlt := (Array.getElem?_eq_some_iff.1 ho).1
          have hl : i < L.size := by rw [h.lsz]; exact hlt
          have hLi : L.getD i false = false := by rw [getD_at hl] at h1 ⊢; exact h1
          refine h.act hok hmth hcal ho (hall i hlt) hLi (fun x hx => by obtain ⟨e, he, hbe, rfl⟩ := mem_edges.1 hx; exact h2 e he hbe) _ Q (fun ζ a' w' hcm hs h' => ?_)
          refine ihf [] m sure lds j alc A Z S _ ζ a' w' h' ?_ hr0 (hcm.move hmv (by rw [← hn0]; exact hs))
          have := cntF_set L.toList i (by rw [Array.getElem?_toList, Array.getElem?_eq_getElem hl]; rw [getD_at hl] at h1; rw [h1])
          rw [Array.toList_setIfInBounds]; omega
    | cons i r ih =>
      intro m sure lds j alc A Z S L η a w h hc hr hmv
      have hr0 := hr
      unfold drawE at hr
      cases ho' : ops.toList[i]? with
      | none => rw [ho'] at hr; cases hr
      | some o =>
        rw [ho'] at hr
        have ho : ops[i]? = some o := by rw [← Array.getElem?_toList]; exact ho'
        simp only at hr
        cases hb : Bool.and (Bool.not (bit m i)) (readyB m o) with
        | false => rw [hb] at hr; cases hr
        | true =>
          rw [hb] at hr
          obtain ⟨hb1, hb2⟩ := and_ok hb
          have hm := not_ok hb1
          simp only at hr
          split at hr
          · rename_i hk
            obtain ⟨u, S1, h1, h2⟩ := gopC_split hr
            have hS := (gopC_float (ρ := ρ) h.hH (.inl hk) h2).1
            subst hS
            exact ih _ _ _ _ _ _ _ _ L η a w (h.float hok ho hm hb2 (.inl ⟨hk, rfl, rfl, rfl, rfl, h2⟩)) hc h1 hmv
          · rename_i hk
            obtain ⟨u, S1, h1, h2⟩ := gopC_split hr
            have hS := (gopC_float (ρ := ρ) h.hH (.inr hk) h2).1
            subst hS
            exact ih _ _ _ _ _ _ _ _ L η a w (h.float hok ho hm hb2 (.inr (.inl ⟨hk, rfl, rfl, rfl, rfl, h2⟩))) hc h1 hmv
          · rename_i hk hgd
            obtain ⟨h1, h2⟩ := chk_ok hr
            obtain ⟨h3, h4⟩ := and_ok h1
            obtain ⟨u, Z1, h5, h6⟩ := bnd_ok h2
            exact ih _ _ _ _ _ _ _ _ L η a w (h.float hok ho hm hb2 (.inr (.inr ⟨hk, hgd, rfl, rfl, rfl, blt_ok h4, beq_ok h3, h5⟩))) hc h6 hmv
          · cases hfr : frontier ops.toList m i with
            | false => rw [hfr] at hr; cases hr
            | true =>
              rw [hfr] at hr
              refine ⟨fun hs => ?_, fun jj hj => ?_⟩
              · exfalso
                have hst := h.stuck hok hs
                have hlt := (Array.getElem?_eq_some_iff.1 ho).1
                have : i ∈ Region.ready .any ops L := by
                  rw [mem_ready]
                  refine ⟨?_, o, ho, fun e he hbe => ?_⟩
                  · rw [getD_at (by rw [h.lsz]; exact hlt)]
                    cases hh : L[i]'(by rw [h.lsz]; exact hlt) with
                    | false => rfl
                    | true =>
                      have := h.sub i (by rw [getD_at (by rw [h.lsz]; exact hlt)]; exact hh)
                      rw [hm] at this; cases this
                  · have hx : e.on ∈ edges o := mem_edges.2 ⟨e, he, hbe, rfl⟩
                    have hlo := hok.low i o ho _ hx
                    exact hst _ (by omega) (List.all_eq_true.1 hb2 _ hx)
                rw [hs] at this; cases this
              · obtain ⟨g1, p, hp, g2⟩ := mem_ready.1 hj
                have hlt := (Array.getElem?_eq_some_iff.1 hp).1
                have hl : jj < L.size := by rw [h.lsz]; exact hlt
                have hLj : L.getD jj false = false := by rw [getD_at hl] at g1 ⊢; exact g1
                have hed : ∀ x ∈ edges p, L.getD x false = true := fun x hx => by obtain ⟨e, he, hbe, rfl⟩ := mem_edges.1 hx; exact g2 e he hbe
                have hcnt : cntF (L.setIfInBounds jj true).toList ≤ fuel := by
                  have := cntF_set L.toList jj (by rw [Array.getElem?_toList, Array.getElem?_eq_getElem hl]; rw [getD_at hl] at g1; rw [g1])
                  rw [Array.toList_setIfInBounds]; omega
                cases hmj : bit m jj with
                | true => exact h.act hok hmth hcal hp hmj hLj hed _ Q (fun ζ a' w' hcm hs h' => ihf (i :: r) m sure lds j alc A Z S _ ζ a' w' h' hcnt hr0 (hcm.move hmv (by rw [← hn0]; exact hs)))
                | false =>
                  have hji : jj = i := by
                    have := List.all_eq_true.1 hfr (p, jj) (by rw [List.mem_zipIdx_iff_getElem?, Array.getElem?_toList]; exact hp)
                    simp only [hmj, Bool.false_or] at this
                    rcases or_ok this with h5 | h5
                    · exact beq_ok h5
                    · have h6 := not_ok h5
                      have : readyB m p = true := List.all_eq_true.2 fun x hx => h.sub x (hed x hx)
                      rw [this] at h6; cases h6
                  subst hji
                  rw [ho] at hp; cases hp
                  have hclos : ∀ x, bit (clos ops.toList 4096 (edges o) sure) x = true → L.getD x false = true := clos_ok (L := fun x => L.getD x false = true) (fun x hx y hy => by
                    unfold edgesAt at hy
                    split at hy
                    · rename_i p hp
                      rw [Array.getElem?_toList] at hp
                      exact h.clo x p hp hx y hy
                    · cases hy) 4096 (edges o) sure hed h.sur
                  obtain ⟨S', c1, c2, c3⟩ := commit_ok hh (alc.filter fun q => bit (clos ops.toList 4096 (edges o) sure) q.1) True S alc h (h.aun.filter _) (fun q hq => ⟨(List.mem_filter.1 hq).1, hclos _ (List.mem_filter.1 hq).2⟩)
                    (alc.filter fun q => Bool.not (bit (clos ops.toList 4096 (edges o) sure) q.1)) (h.aun.filter _) (fun x hx => ⟨(List.mem_filter.1 hx).1, fun q hq e => by
                      have h5 := (List.mem_filter.1 hx).2
                      have h6 := (List.mem_filter.1 hq).2
                      rw [alc_inj h.aun (List.mem_filter.1 hx).1 (List.mem_filter.1 hq).1 e, h6] at h5
                      cases h5⟩) (fun x hx hLx => List.mem_filter.2 ⟨hx, by
                      cases h5 : bit (clos ops.toList 4096 (edges o) sure) x.1 with
                      | false => rfl
                      | true => rw [hclos _ h5] at hLx; cases hLx⟩) hmv hr
                  obtain ⟨u, S1, h1, h2⟩ := gopC_split c1
                  obtain ⟨h3, h4⟩ := recheck_ok _ h1
                  exact c2.chain hok hmth hcal ho hm hed h2 h4 _ Q (fun ζ a' w' hmv' h' => ihf r _ _ _ _ _ _ _ S1 _ ζ a' w' h' hcnt h3 (c3.trans hmv'))
theorem theDraw2_ok (hmix : P.follows .mixedOrders = true) (hH : HyAt P ρ H) (hmth : MthOk P mth) : DrawOk P ρ H mth theDraw2 := by
  intro call hcal g N id ops _ Q v T A S a w η K hrs h hK
  unfold theDraw2 at h
  cases hb : okOps P N ops.toList with
  | false => rw [hb] at h; cases h
  | true =>
    rw [hb] at h
    simp only [force_eq] at h
    have hmv0 : Move P η S w η S w.drew := move_drew hrs.rep
    have hrep' : Rep P η ⟨S.heap, Nat.add S.next (nAlc P ops.toList), S.ds⟩ w.drew := ⟨hmv0.rep.live, hmv0.rep.inj, fun n hn => hmv0.rep.new n (Nat.le_trans (Nat.le_add_right _ _) hn), hmv0.rep.low, hmv0.rep.own, Nat.le_trans hmv0.rep.top (Nat.le_add_right _ _), hmv0.rep.inv, hmv0.rep.foot⟩
    have hmv : Move P η S w η ⟨S.heap, Nat.add S.next (nAlc P ops.toList), S.ds⟩ w.drew := ⟨⟨hmv0.ext.le, Nat.le_add_right _ _, hmv0.ext.live, hmv0.ext.fresh⟩, hrep', hmv0.fr⟩
    refine wp_region_any hmix ?_
    refine drawE_main (K := K) (k := nAlc P ops.toList) (n0 := S.next) (h0 := w.heap.size) (okOps_ok hb) hmth hcal rfl rfl hK ops.size _ 0 0 [] 0 [] A S _ _ η a w.drew ?_ (by rw [Array.toList_replicate, cntF_replicate]; exact Nat.le_refl _) h hmv
    have hL : ∀ i, ¬ (Array.replicate ops.size false).getD i false = true := fun i => by
      rw [Array.getD_eq_getD_getElem?, Array.getElem?_replicate]
      split <;> simp
    exact ⟨by simp, fun i hi => absurd hi (hL i), fun i o _ hi => absurd hi (hL i), fun i o _ hi => (by rw [bit_zero] at hi; cases hi), fun i hi => (by rw [bit_zero] at hi; cases hi), fun i o _ hi => (by rw [bit_zero] at hi; cases hi), fun p hp => (by cases hp), hrs.ar.size, hrs.ar.le, fun t ht _ => hrs.ar.tmp t ht, hrep', hrs.dr, hrs.rho, hH,
      Nat.le_refl _, hrs.rep.top, Nat.zero_le _, hmv0.fr.size, fun r h1 _ => hrs.rep.new r h1, fun q hq => (by cases hq), .nil, fun q hq => (by cases hq), fun q hq => (by cases hq), fun q hq => (by cases hq), fun q hq => (by cases hq), fun b hb => (hrs.rep.foot b hb).1⟩
end Go.Exec

namespace Go.Exec
open Go
variable {P : Program} {N : Nat} {ρ : Nat → Int} {H : Hy}
noncomputable def okTrue (r : Ans) : Bool := match r with | .ok v _ => Bool.and (Nat.beq v.s.tag 1) (Nat.beq v.s.a 1) | .no => false
def nv0 (ρ : Nat → Int) : Nv := Nv.mk0 (fun _ => none) (fun _ => 0) ρ
theorem st0_dead (n m : Nat) : blkAt (st0 n) m = blk0 := acc_emp (α := Blk) blk0 5 m
theorem st0_rep (ρ : Nat → Int) {n : Nat} (hn : 256 ≤ n) (w : World) : Rep P (nv0 ρ) (st0 n) w :=
  ⟨fun m _ hl => by rw [st0_dead] at hl; exact absurd hl (Nat.lt_irrefl 0), fun m _ b _ _ hl => by rw [st0_dead] at hl; exact absurd hl (Nat.lt_irrefl 0), fun _ _ => rfl, fun _ _ h => (by cases h), fun _ _ _ h => (by cases h), hn, trivial, fun _ h => h.elim⟩
/-- A closed run that ends in true: only the blocks that were live at its start may have changed. -/
theorem closed_at {call : Caller} (hcal : Cal P ρ call) {g : Nat} {vs : List V} {args : List Value} {η : Nv} {S : St} {w : World} (hρ : η.ρ = ρ) (hv : VRL η vs args) (hR : Rep P η S w) (hent : (callFunc g args.toArray).run P w = .ok (.enter g args.toArray) w) (h : okTrue (call g vs S) = true) :
    Calls P g args.toArray w fun e w' => e = .returned (.bool true) ∧ Fr η S w w' := by
  cases hr : call g vs S with
  | no => rw [hr] at h; cases h
  | ok v S' =>
    rw [hr] at h
    obtain ⟨h1, h2⟩ := and_ok h
    obtain ⟨-, hc⟩ := hcal.ok g vs S v S' η args w hρ hv hR hr
    rcases hc with ⟨-, hc⟩ | ⟨x, w', hc, -⟩
    · refine hc.mono ?_
      rintro e w' ⟨x, rfl, ζ, hm, hx⟩
      obtain ⟨b, rfl, hb⟩ := (hx.asSc (by rw [beq_ok h1]; omega)).asBool (beq_ok h1)
      rw [beq_ok h2] at hb
      cases b with
      | false => cases hb
      | true => exact ⟨rfl, hm.fr⟩
    · rw [hent] at hc; cases hc
/-- The same from nothing, as a law's text wants it. -/
theorem closed_ok {call : Caller} (hcal : Cal P ρ call) {g : Nat} {vs : List V} {args : List Value} (hv : VRL (nv0 ρ) vs args) {n : Nat} (hn : 256 ≤ n) (w : World) (hent : (callFunc g args.toArray).run P w = .ok (.enter g args.toArray) w) (h : okTrue (call g vs (st0 n)) = true) :
    Calls P g args.toArray w fun e w' => e = .returned (.bool true) ∧ w'.os = w.os ∧ w'.tape = w.tape ∧ w'.output = w.output ∧ w.heap.size ≤ w'.heap.size ∧ ∀ k, k < w.heap.size → w'.heap[k]? = w.heap[k]? :=
  (closed_at hcal rfl hv (st0_rep ρ hn w) hent h).mono fun _ _ ⟨h1, h2⟩ => ⟨h1, h2.os, h2.tape, h2.output, h2.size, fun k hk => h2.block k hk (fun m _ _ hl => by rw [st0_dead] at hl; exact absurd hl (Nat.lt_irrefl 0))⟩
end Go.Exec

namespace Go.Exec
open Go
variable {P : Program} {N : Nat} {ρ : Nat → Int} {H : Hy}
/-- What the executor needs of sync.Once's Do. -/
structure OnceLaws (P : Program) (g : Nat) : Prop where
  slow : ∀ (b off F : Nat) (caps : Array Value), (∀ w, (callFunc F caps).run P w = .ok (.enter F caps) w) → ∀ (w : World) (R : World → Prop),
    w.cell? ⟨b, off, none⟩ = some (.int .u32 0) → w.cell? ⟨b, off + 1, none⟩ = some (.int .i32 0) → w.frozen? ⟨b, off + 1, none⟩ = false →
    (Calls P F caps (w.setCell ⟨b, off + 1, none⟩ (.int .i32 1)) fun e w' => e = .returned (.tuple #[]) ∧ (w'.cell? ⟨b, off, none⟩ = some (.int .u32 0) ∧ w'.cell? ⟨b, off + 1, none⟩ = some (.int .i32 1) ∧ w'.frozen? ⟨b, off, none⟩ = false ∧ w'.frozen? ⟨b, off + 1, none⟩ = false) ∧ R w') →
    Calls P g #[.pointer (some ⟨b, off, none⟩), .func (.func F) #[] caps] w fun e w' => e = .returned (.tuple #[]) ∧ ∃ w1, R w1 ∧ w' = (w1.drew.setCell ⟨b, off, none⟩ (.int .u32 1)).setCell ⟨b, off + 1, none⟩ (.int .i32 0)
  fast : ∀ (b off F : Nat) (caps : Array Value) (w : World), w.cell? ⟨b, off, none⟩ = some (.int .u32 1) → Calls P g #[.pointer (some ⟨b, off, none⟩), .func (.func F) #[] caps] w fun e w' => e = .returned (.tuple #[]) ∧ w' = w
noncomputable def cellAt (n o : Nat) (S : St) : Sc := (accC o).f ((getB n).f S).cs
noncomputable def isCell (n o tag a : Nat) (S : St) : Bool := Bool.and (Bool.and (Nat.blt n 32768) (Nat.blt o ((getB n).f S).size)) (Bool.and (Nat.beq (cellAt n o S).tag tag) (Nat.beq (cellAt n o S).a a))
/-- sync.Once's Do: u32 has tag 22, i32 has tag 18. -/
noncomputable def onceC (P : Program) : FnC := ⟨fun call vs S => chk (Nat.beq vs.length 2) (nthV vs 0 (fun p => nthV vs 1 (fun f => ptrD p (fun n o => chk (Bool.and (Nat.beq f.s.tag 7) f.s.xs.isEmpty)
  (iff (isCell n o 22 1 S) (.ok undefV S)
    (chk (Bool.and (isCell n o 22 0 S) (Bool.and (isCell n (Nat.add o 1) 18 0 S) (fnOk P f.s.a)))
      (storeS n (Nat.add o 1) ⟨18, 1, 0, 0, 0, [], []⟩ S (fun S1 => force f.s.a (fun g => bnd (call g (vsS f.s.ys) S1) (fun u S2 =>
        chk (Bool.and (Bool.and (Nat.beq u.s.tag 99) u.vs.isEmpty) (Bool.and (isCell n o 22 0 S2) (isCell n (Nat.add o 1) 18 1 S2)))
          (storeS n o ⟨22, 1, 0, 0, 0, [], []⟩ S2 (fun S3 => storeS n (Nat.add o 1) ⟨18, 0, 0, 0, 0, [], []⟩ S3 (fun S4 => .ok undefV S4))))) .no)))))))) ⟩
theorem isCell_ok {n o tag a : Nat} {S : St} (h : isCell n o tag a S = true) : n < 32768 ∧ o < (blkAt S n).size ∧ (cellAt n o S).tag = tag ∧ (cellAt n o S).a = a := by
  obtain ⟨h1, h2⟩ := and_ok h
  obtain ⟨h3, h4⟩ := and_ok h1
  obtain ⟨h5, h6⟩ := and_ok h2
  exact ⟨blt_ok h3, blt_ok h4, beq_ok h5, beq_ok h6⟩
theorem isCell_val {n o tag a b : Nat} {S : St} {η : Nv} {w : World} (h : isCell n o tag a S = true) (hR : Rep P η S w) (hσ : η.σ n = some b) {k : IntKind} (hk : tag = kcode k) : w.cell? ⟨b, o, none⟩ = some (.int k (k.wrap (a : Int))) ∧ w.frozen? ⟨b, o, none⟩ = false := by
  obtain ⟨h1, h2, h3, h4⟩ := isCell_ok h
  obtain ⟨b', hl⟩ := hR.live n h1 (by omega)
  obtain rfl : b = b' := by have := hl.σ; rw [hσ] at this; injection this
  obtain ⟨v, hv, hs⟩ := hl.cell o h2
  have hs' : SR η (cellAt n o S) v := hs
  obtain ⟨rfl, -⟩ := hs'.asInt (k := k) (h3.trans hk)
  rw [h4] at hv
  exact ⟨hv, (hl.all o (Nat.lt_of_lt_of_le h2 hl.cap)).2⟩
theorem move_store {n o b : Nat} {s : Sc} {v : Value} {S S' : St} {K : St → Ans} {u : V} {η : Nv} {w : World} (h : storeS n o s S K = .ok u S') (hR : Rep P η S w) (hσ : η.σ n = some b) (hv : SR η s v) : ∃ T, K T = .ok u S' ∧ T.ds = S.ds ∧ Move P η S w η T (w.setCell ⟨b, o, none⟩ v) := by
  obtain ⟨h1, h2⟩ := chk_ok h
  obtain ⟨h3, h4⟩ := and_ok h1
  obtain ⟨hn0, hn⟩ := wrN_ok h3
  have ho : o < (blkAt S n).size := blt_ok h4
  obtain ⟨b', hl⟩ := hR.live n hn (by omega)
  have hsl := hl.size
  refine ⟨_, h2, rfl, ?_⟩
  have := move_cells (o := o) (cs := (updC o).f s (blkAt S n).cs) (vs := [v]) hR hn0 hn (by omega) hσ (show o + 1 ≤ _ from ho) (fun j hj => by
    have : j = 0 := by simpa using hj
    subst this
    rw [Nat.add_zero, accC_updC_same]; exact hv) (fun k hk hc => by
    simp at hc
    exact accC_updC_ne _ _ (by omega) (by omega) (by omega))
  exact this
theorem once_spec {g : Nat} (hO : OnceLaws P g) : ∀ call, Cal P ρ call → ∀ vs S v S' η args w, η.ρ = ρ → VRL η vs args → Rep P η S w → (onceC P).f call vs S = .ok v S' → fnOk P g = true → S'.ds = S.ds ∧ Comes' P g args.toArray w fun x w' => ∃ ζ, Move P η S w ζ S' w' ∧ VR ζ v x := by
  intro call hcal vs S v S' η args w hρ hvs hR h hg
  obtain ⟨h0, h⟩ := chk_ok h
  match vs, args, hvs, h0, h with
  | [p, f], [xp, xf], .cons hp (.cons hf .nil), _, h =>
    obtain ⟨h1, h2⟩ := ptrD_ok (show ptrD p _ = .ok v S' from h)
    obtain ⟨h3, h4⟩ := chk_ok h2
    obtain ⟨h5, h6⟩ := and_ok h3
    obtain ⟨b, hb, ep⟩ := (hp.asSc (by rw [beq_ok h1]; omega)).asPtr (beq_ok h1)
    obtain ⟨xs, ys, ef, hx, hy⟩ := (hf.asSc (by rw [beq_ok h5]; omega)).asFn (beq_ok h5)
    rw [List.isEmpty_iff.1 h6] at hx
    cases hx
    subst ep; subst ef
    rcases iff_ok h4 with ⟨h7, h8⟩ | ⟨-, h8⟩
    · cases h8
      have hb := hb.live hR (isCell_ok h7).1 (by have := (isCell_ok h7).2.1; omega)
      have hc := (isCell_val h7 hR hb (k := .u32) rfl).1
      refine ⟨rfl, .inl ⟨fnOk_enter hg _ w, ?_⟩⟩
      refine (hO.fast b p.s.b f.s.a ys.toArray w (by rw [hc]; rfl)).mono ?_
      rintro e w' ⟨rfl, rfl⟩
      exact ⟨_, rfl, η, Move.refl hR, VR.undef η⟩
    · obtain ⟨h9, h10⟩ := chk_ok h8
      obtain ⟨h11, h12⟩ := and_ok h9
      obtain ⟨h13, h14⟩ := and_ok h12
      have hb := hb.live hR (isCell_ok h11).1 (by have := (isCell_ok h11).2.1; omega)
      have c0 := isCell_val h11 hR hb (k := .u32) rfl
      have c1 := isCell_val h13 hR hb (k := .i32) rfl
      obtain ⟨S1, g1, d1, m1⟩ := move_store (v := .int .i32 (IntKind.i32.wrap (1 : Nat))) h10 hR hb (.int .i32 rfl (by decide))
      obtain ⟨u, S2, g2, g3⟩ := bnd_ok g1
      obtain ⟨g4, g5⟩ := chk_ok g3
      obtain ⟨g6, g7⟩ := and_ok g4
      obtain ⟨g8, g9⟩ := and_ok g6
      obtain ⟨g10, g11⟩ := and_ok g7
      obtain ⟨d2, hcom⟩ := hcal.ok f.s.a (vsS f.s.ys) S1 u S2 η ys _ hρ (VRL.vsS hy) m1.rep g2
      have hent : ∀ w, (callFunc f.s.a ys.toArray).run P w = .ok (.enter f.s.a ys.toArray) w := fun w => fnOk_enter h14 _ w
      have w10 : IntKind.i32.wrap ((1 : Nat) : Int) = 1 := by decide
      have w00 : IntKind.u32.wrap ((0 : Nat) : Int) = 0 := by decide
      have w01 : IntKind.i32.wrap ((0 : Nat) : Int) = 0 := by decide
      have w11 : IntKind.u32.wrap ((1 : Nat) : Int) = 1 := by decide
      have hcl : Calls P f.s.a ys.toArray (w.setCell ⟨b, p.s.b + 1, none⟩ (.int .i32 1)) fun e w' => e = .returned (.tuple #[]) ∧ (w'.cell? ⟨b, p.s.b, none⟩ = some (.int .u32 0) ∧ w'.cell? ⟨b, p.s.b + 1, none⟩ = some (.int .i32 1) ∧ w'.frozen? ⟨b, p.s.b, none⟩ = false ∧ w'.frozen? ⟨b, p.s.b + 1, none⟩ = false) ∧ ∃ ζ, Move P η S w ζ S2 w' := by
        rcases hcom with ⟨-, hc⟩ | ⟨x, w', hc, -⟩
        · rw [w10] at hc m1
          refine hc.mono ?_
          rintro e w' ⟨x, rfl, ζ, hm, hx⟩
          have hb' := hm.ext.le.σ _ _ hb
          have q0 := isCell_val g10 hm.rep hb' (k := .u32) rfl
          have q1 := isCell_val g11 hm.rep hb' (k := .i32) rfl
          rw [w00] at q0
          rw [w10] at q1
          obtain ⟨xs, rfl, hxs⟩ := hx.asTup (beq_ok g8)
          rw [List.isEmpty_iff.1 g9] at hxs
          cases hxs
          exact ⟨rfl, ⟨q0.1, q1.1, q0.2, q1.2⟩, ζ, m1.trans hm⟩
        · rw [hent] at hc; cases hc
      have hds : S'.ds = S.ds := by
        obtain ⟨k1, k2⟩ := chk_ok (show storeS _ _ _ S2 _ = .ok v S' from g5)
        obtain ⟨k3, k4⟩ := chk_ok (show storeS _ _ _ _ _ = .ok v S' from k2)
        cases k4
        exact d2.trans d1
      refine ⟨hds, .inl ⟨fnOk_enter hg _ w, ?_⟩⟩
      refine (hO.slow b p.s.b f.s.a ys.toArray hent w (fun w' => ∃ ζ, Move P η S w ζ S2 w') (by rw [c0.1, w00]) (by rw [show p.s.b + 1 = Nat.add p.s.b 1 from rfl, c1.1, w01]) c1.2 hcl).mono ?_
      rintro e w' ⟨rfl, w1, ⟨ζ, hm⟩, rfl⟩
      have hb' := hm.ext.le.σ _ _ hb
      have hm1 := hm.trans (move_drew hm.rep)
      obtain ⟨S3, g12, -, m3⟩ := move_store (v := .int .u32 (IntKind.u32.wrap (1 : Nat))) g5 hm1.rep hb' (.int .u32 rfl (by decide))
      obtain ⟨S4, g13, -, m4⟩ := move_store (v := .int .i32 (IntKind.i32.wrap (0 : Nat))) g12 m3.rep hb' (.int .i32 rfl (by decide))
      cases g13
      rw [w11] at m3 m4
      rw [w01] at m4
      exact ⟨_, rfl, ζ, hm1.trans (m3.trans m4), VR.undef ζ⟩
end Go.Exec

namespace Go.Exec
open Go
variable {P : Program} {N : Nat} {ρ : Nat → Int} {H : Hy}
/-- What the executor needs of bytealg's MakeNoZero: e is the type of a byte. -/
def NoZeroLaw (P : Program) (g e : Nat) : Prop := ∀ (n : Nat) (w : World), n ≤ 32768 → ∃ (cs : Array Value) (m : Nat), (callFunc g #[.int .i64 (n : Int)]).run P w = .ok (.value (.slice (some ⟨w.heap.size, 0, none⟩) n cs.size)) ((w.alloc (.cells cs e)).drewN m) ∧ n ≤ cs.size ∧ ∀ v ∈ cs, v.oneCell' = true
noncomputable def noZeroC (e : Nat) : FnC := ⟨fun _ vs S => chk (Nat.beq vs.length 1) (nthV vs 0 (fun v => chk (Nat.beq v.s.tag 19) (force v.s.a (fun n => newB S n e cells0 (fun b S => .ok (mkSu b 0 n 0) S)) .no)))⟩
theorem accC_cells0 (i : Nat) : (accC i).f cells0 = sc0 := by
  unfold accC
  cases Nat.ble i 7 with
  | true => exact acc_emp (α := Sc) sc0 1 i
  | false => exact acc_emp (α := Sc) sc0 5 i
theorem move_drewN {η : Nv} {S : St} : ∀ (m : Nat) {w : World}, Rep P η S w → Move P η S w η S (w.drewN m)
  | 0, _, h => Move.refl h
  | m + 1, _, h => (move_drewN m h).trans (move_drew (move_drewN m h).rep)
theorem noZero_spec {g e : Nat} (hZ : NoZeroLaw P g e) (hs : sizeT P e = 1) : ∀ vs S v S' η args w call, VRL η vs args → Rep P η S w → (noZeroC e).f call vs S = .ok v S' → S'.ds = S.ds ∧ Comes' P g args.toArray w fun x w' => ∃ ζ, Move P η S w ζ S' w' ∧ VR ζ v x := by
  intro vs S v S' η args w call hvs hR h
  obtain ⟨h0, h⟩ := chk_ok h
  match vs, args, hvs, h0, h with
  | [p], [x], .cons hp .nil, _, h =>
    obtain ⟨h1, h2⟩ := chk_ok (show chk (Nat.beq p.s.tag 19) _ = .ok v S' from h)
    rw [force_eq] at h2
    obtain ⟨h3, h4, h5, -⟩ := newB_ok h2
    cases h5
    obtain ⟨rfl, hl⟩ := (hp.asSc (by rw [beq_ok h1]; omega)).asInt (k := .i64) (beq_ok h1)
    obtain ⟨cs, m, r1, r2, r3⟩ := hZ p.s.a w h3
    have hw : IntKind.i64.wrap ((p.s.a : Nat) : Int) = (p.s.a : Int) := by
      rw [wrap_nat .i64 hl, if_pos (.inr (Nat.lt_of_le_of_lt h3 (by decide)))]
    refine ⟨rfl, .inr ⟨_, _, by rw [hw]; exact r1, ?_⟩⟩
    have hm := move_new (P := P) hR (z := p.s.a) (e := e) (cs := cells0) (c := cs) (k := cs.size) (lo := 0) (hi := 0) h4 h3 (by rw [hs, Nat.mul_one]) r2 (.inr (Nat.le_refl _)) (fun i y _ hy => .unk (by rw [accC_cells0]; rfl) (r3 y (Array.mem_of_getElem? hy))) S.ds
    refine ⟨_, hm.trans (move_drewN m hm.rep), ?_⟩
    have hat : (η.set S.next w.heap.size cs.size).σ S.next = some w.heap.size := by simp [Nv.set]
    have hatk : (η.set S.next w.heap.size cs.size).κ S.next = cs.size := by simp [Nv.set]
    have := SR.su (η := η.set S.next w.heap.size cs.size) (s := ⟨12, S.next, 0, p.s.a, 0, [], []⟩) w.heap.size rfl hat (by rw [hatk]; simpa using r2)
    simp only [hatk, Nat.sub_zero] at this
    exact .sc this
end Go.Exec

namespace Go.Exec
open Go
variable {P : Program} {N : Nat} {ρ : Nat → Int} {H : Hy}
/-- What the executor needs of sync/atomic's AddInt64. -/
def AddLaw (P : Program) (g : Nat) : Prop := ∀ (a : Addr) (x y s : Int) (w : World), w.cell? a = some (.int .i64 x) → w.frozen? a = false → IntKind.i64.wrap (x + y) = s → (callFunc g #[.pointer (some a), .int .i64 y]).run P w = .ok (.value (.int .i64 s)) (w.setCell a (.int .i64 s))
noncomputable def addC : FnC := ⟨fun _ vs S => chk (Nat.beq vs.length 2) (nthV vs 0 (fun p => nthV vs 1 (fun d => ptrD p (fun n o =>
  chk (Bool.and (Nat.beq d.s.tag 19) (Bool.and (Bool.and (Nat.blt n 32768) (Nat.blt o ((getB n).f S).size)) (Nat.beq (cellAt n o S).tag 19)))
    (force (Nat.mod (Nat.add (cellAt n o S).a d.s.a) 18446744073709551616) (fun r => storeS n o ⟨19, r, 0, 0, 0, [], []⟩ S (fun S => .ok (mkI 19 r) S)) .no)))))⟩
theorem add_spec {g : Nat} (hA : AddLaw P g) : ∀ vs S v S' η args w call, VRL η vs args → Rep P η S w → addC.f call vs S = .ok v S' → S'.ds = S.ds ∧ Comes' P g args.toArray w fun x w' => ∃ ζ, Move P η S w ζ S' w' ∧ VR ζ v x := by
  intro vs S v S' η args w call hvs hR h
  obtain ⟨h0, h⟩ := chk_ok h
  match vs, args, hvs, h0, h with
  | [p, d], [xp, xd], .cons hp (.cons hd .nil), _, h =>
    obtain ⟨h1, h2⟩ := ptrD_ok (show ptrD p _ = .ok v S' from h)
    obtain ⟨h3, h4⟩ := chk_ok h2
    obtain ⟨h5, h6⟩ := and_ok h3
    obtain ⟨h7, h8⟩ := and_ok h6
    obtain ⟨h9, h10⟩ := and_ok h7
    rw [force_eq] at h4
    have hn := blt_ok h9
    have ho : p.s.b < (blkAt S p.s.a).size := blt_ok h10
    obtain ⟨b, hb, rfl⟩ := (hp.asSc (by rw [beq_ok h1]; omega)).asPtr (beq_ok h1)
    have hb := hb.live hR hn (by omega)
    obtain ⟨b', hl⟩ := hR.live _ hn (by omega)
    obtain rfl : b = b' := by have := hl.σ; rw [hb] at this; injection this
    obtain ⟨y, hy, hs⟩ := hl.cell _ ho
    obtain ⟨rfl, hlt⟩ := (show SR η (cellAt p.s.a p.s.b S) y from hs).asInt (k := .i64) (beq_ok h8)
    obtain ⟨rfl, hld⟩ := (hd.asSc (by rw [beq_ok h5]; omega)).asInt (k := .i64) (beq_ok h5)
    have hz := (hl.all p.s.b (Nat.lt_of_lt_of_le ho hl.cap)).2
    obtain ⟨T, g1, g2, g3⟩ := move_store (v := .int .i64 (IntKind.i64.wrap ((Nat.mod (Nat.add (cellAt p.s.a p.s.b S).a d.s.a) (kmod .i64) : Nat) : Int))) h4 hR hb (.int .i64 rfl (mod_lt .i64 _))
    cases g1
    refine ⟨g2, .inr ⟨_, _, hA ⟨b, p.s.b, none⟩ _ _ _ w hy hz (wrap_add .i64 _ _), η, g3, VR.mkI .i64 (mod_lt .i64 _)⟩⟩
end Go.Exec

namespace Go.Exec
open Go
variable {P : Program} {N : Nat} {ρ : Nat → Int} {H : Hy}
/-- a scalar without names -/
noncomputable def pureS (s : Sc) : Bool := Bool.or (Bool.or (Bool.or (Nat.beq s.tag 1) (Nat.beq s.tag 2)) (Bool.or (Nat.beq s.tag 3) (Nat.beq s.tag 5))) (Bool.or (Bool.or (Nat.beq s.tag 8) (Nat.beq s.tag 10)) (Bool.and (Nat.ble 16 s.tag) (Nat.ble s.tag 23)))
noncomputable def eqP (e s : Sc) : Bool := Bool.and (Bool.and (Nat.beq e.tag s.tag) (Nat.beq e.a s.a)) (Bool.and (Nat.beq e.b s.b) (pureS s))
/-- e stands for s: e is unknown or the same, without names -/
noncomputable def matS (e s : Sc) : Bool := Bool.or (Nat.beq e.tag 0) (eqP e s)
noncomputable def allN (n : Nat) (f : Nat → Bool) : Bool := Nat.rec (motive := fun _ => Bool) true (fun i ih => Bool.rec (motive := fun _ => Bool) false ih (f i)) n
noncomputable def matV (e v : V) : Bool :=
  Bool.rec (motive := fun _ => Bool) (Bool.and (Nat.beq e.s.tag 98) (Bool.and (Nat.beq v.s.tag 98) (Bool.and (Bool.and (Nat.beq e.s.a v.s.a) (Nat.ble e.s.a 32768)) (allN e.s.a (fun i => matS ((accC i).f e.cs) ((accC i).f v.cs))))))
    (Bool.and (matS e.s v.s) (Nat.ble v.s.tag 97)) (Nat.ble e.s.tag 97)
noncomputable def matVs (es : List V) : List V → Bool := List.rec (motive := fun _ => List V → Bool) (fun vs => List.rec (motive := fun _ => Bool) true (fun _ _ _ => false) vs)
  (fun e _ ih vs => List.rec (motive := fun _ => Bool) false (fun v r _ => Bool.rec (motive := fun _ => Bool) false (ih r) (matV e v)) vs) es
noncomputable def matT (e v : V) : Bool := Bool.rec (motive := fun _ => Bool) (matV e v) (Bool.and (Nat.beq v.s.tag 99) (matVs e.vs v.vs)) (Nat.beq e.s.tag 99)
noncomputable def sameB (x y : Blk) : Bool := Bool.and (Bool.and (Nat.beq x.size y.size) (Nat.beq x.elem y.elem)) (allN x.size (fun i => eqP ((accC i).f x.cs) ((accC i).f y.cs)))
noncomputable def sameG (gs : List Nat) (S T : St) : Bool := List.rec (motive := fun _ => Bool) true (fun n _ ih => Bool.rec (motive := fun _ => Bool) false ih (sameB ((getB n).f S) ((getB n).f T))) gs

theorem pureS_ok {s : Sc} (h : pureS s = true) : s.tag = 1 ∨ s.tag = 2 ∨ s.tag = 3 ∨ s.tag = 5 ∨ s.tag = 8 ∨ s.tag = 10 ∨ (16 ≤ s.tag ∧ s.tag ≤ 23) := by
  rcases or_ok h with h | h
  · rcases or_ok h with h | h <;> rcases or_ok h with h | h <;> have := beq_ok h <;> omega
  · rcases or_ok h with h | h
    · rcases or_ok h with h | h <;> have := beq_ok h <;> omega
    · obtain ⟨h1, h2⟩ := and_ok h
      have := ble_ok h1
      have := ble_ok h2
      omega
theorem SR.plain {η ζ : Nv} {e s : Sc} {v : Value} (h : SR η s v) (ht : e.tag = s.tag) (ha : e.a = s.a) (hb : e.b = s.b) (hp : pureS s = true) : SR ζ e v := by
  have hp := pureS_ok hp
  cases h with
  | unk h h1 => omega
  | bool b h h1 => exact .bool b (ht.trans h) (ha.trans h1)
  | str t h h1 h2 => exact .str t (ht.trans h) (ha.trans h1) (hb.trans h2)
  | nilp h => exact .nilp (ht.trans h)
  | ptr b h _ => omega
  | nils h => exact .nils (ht.trans h)
  | sl b h => omega
  | su b h => omega
  | fn xs ys h => omega
  | nilf h => exact .nilf (ht.trans h)
  | ifc v h => omega
  | nili h => exact .nili (ht.trans h)
  | int k h h1 =>
    rw [← ha]
    exact .int k (ht.trans h) (ha ▸ h1)
  | var k h => omega
  | ints k n h => omega
theorem eqP_ok {e s : Sc} (h : eqP e s = true) : e.tag = s.tag ∧ e.a = s.a ∧ e.b = s.b ∧ pureS s = true := by
  obtain ⟨h1, h2⟩ := and_ok h
  obtain ⟨h3, h4⟩ := and_ok h1
  obtain ⟨h5, h6⟩ := and_ok h2
  exact ⟨beq_ok h3, beq_ok h4, beq_ok h5, h6⟩
theorem SR.same {η ζ : Nv} {e s : Sc} {v : Value} (h : SR η s v) (hs : eqP e s = true) : SR ζ e v := by
  obtain ⟨h1, h2, h3, h4⟩ := eqP_ok hs
  exact h.plain h1 h2 h3 h4
theorem SR.mat {η ζ : Nv} {e s : Sc} {v : Value} (h : SR η s v) (hs : matS e s = true) : SR ζ e v := by
  rcases or_ok hs with hs | hs
  · exact .unk (beq_ok hs) h.one
  · exact h.same hs
theorem allN_ok {f : Nat → Bool} : ∀ {n : Nat}, allN n f = true → ∀ i, i < n → f i = true
  | 0, _, i, hi => absurd hi (Nat.not_lt_zero i)
  | n + 1, h, i, hi => by
    have h' : Bool.rec (motive := fun _ => Bool) false (allN n f) (f n) = true := h
    cases hf : f n with
    | false => rw [hf] at h'; cases h'
    | true =>
      rw [hf] at h'
      rcases Nat.lt_succ_iff_lt_or_eq.1 hi with hi | rfl
      · exact allN_ok h' i hi
      · exact hf
theorem VR.mat {η ζ : Nv} {e v : V} {x : Value} (h : VR η v x) (hs : matV e v = true) : VR ζ e x := by
  unfold matV at hs
  cases hc : Nat.ble e.s.tag 97 with
  | true =>
    rw [hc] at hs
    obtain ⟨h1, h2⟩ := and_ok hs
    exact .sc ((h.asSc (ble_ok h2)).mat h1)
  | false =>
    rw [hc] at hs
    obtain ⟨h1, h2⟩ := and_ok hs
    obtain ⟨h3, h4⟩ := and_ok h2
    obtain ⟨h5, h6⟩ := and_ok h4
    obtain ⟨h7, h8⟩ := and_ok h5
    obtain ⟨cs, rfl, k1, k2, k3⟩ := h.asAgg (beq_ok h3)
    refine .agg cs (beq_ok h1) ((beq_ok h7).trans k1) k2 (fun i y hy => (k3 i y hy).mat (allN_ok h6 i ?_))
    obtain ⟨hi, -⟩ := Array.getElem?_eq_some_iff.1 hy
    rw [beq_ok h7, k1]; exact hi
theorem VRL.mat {η ζ : Nv} : ∀ {es vs : List V} {xs : List Value}, VRL η vs xs → matVs es vs = true → VRL ζ es xs
  | [], _, _, .nil, _ => .nil
  | [], _, _, .cons _ _, h => by cases h
  | _ :: _, _, _, .nil, h => by cases h
  | e :: es, v :: vs, _, .cons h hs, hm => by
    have hm' : Bool.rec (motive := fun _ => Bool) false (matVs es vs) (matV e v) = true := hm
    cases hv : matV e v with
    | false => rw [hv] at hm'; cases hm'
    | true => rw [hv] at hm'; exact .cons (h.mat hv) (VRL.mat hs hm')
theorem VR.matT {η ζ : Nv} {e v : V} {x : Value} (h : VR η v x) (hs : matT e v = true) : VR ζ e x := by
  unfold Go.Exec.matT at hs
  cases hc : Nat.beq e.s.tag 99 with
  | false => rw [hc] at hs; exact h.mat hs
  | true =>
    rw [hc] at hs
    obtain ⟨h1, h2⟩ := and_ok hs
    obtain ⟨xs, rfl, hx⟩ := h.asTup (beq_ok h1)
    exact .tup xs (beq_ok hc) (hx.mat h2)
theorem sameB_ok {x y : Blk} (h : sameB x y = true) : x.size = y.size ∧ x.elem = y.elem ∧ ∀ i, i < x.size → eqP ((accC i).f x.cs) ((accC i).f y.cs) = true := by
  obtain ⟨h1, h2⟩ := and_ok h
  obtain ⟨h3, h4⟩ := and_ok h1
  exact ⟨beq_ok h3, beq_ok h4, allN_ok h2⟩
theorem sameG_ok {S T : St} : ∀ {gs : List Nat}, sameG gs S T = true → ∀ n ∈ gs, sameB (blkAt S n) (blkAt T n) = true
  | n :: gs, h, m, hm => by
    have h' : Bool.rec (motive := fun _ => Bool) false (sameG gs S T) (sameB ((getB n).f S) ((getB n).f T)) = true := h
    cases hb : sameB ((getB n).f S) ((getB n).f T) with
    | false => rw [hb] at h'; cases h'
    | true =>
      rw [hb] at h'
      rcases List.mem_cons.1 hm with rfl | hm
      · exact hb
      · exact sameG_ok h' m hm
theorem Live.same {η ζ : Nv} {x y : Blk} {n b : Nat} {w : World} (h : Live P η y n b w) (hs : sameB x y = true) (hσ : ζ.σ n = some b) (hκ : ζ.κ n = η.κ n) : Live P ζ x n b w := by
  obtain ⟨h1, h2, h3⟩ := sameB_ok hs
  refine ⟨hσ, h1 ▸ h.size, by rw [h1, h2, hκ]; exact h.cap, fun i hi => ?_, by rw [h2, hκ]; exact h.all⟩
  obtain ⟨v, hv, hr⟩ := h.cell i (h1 ▸ hi)
  exact ⟨v, hv, hr.same (h3 i hi)⟩
theorem Live.back {η ζ : Nv} {x y z : Blk} {n b : Nat} {w : World} (h : Live P η z n b w) (hy : sameB x y = true) (hz : sameB x z = true) (hσ : ζ.σ n = some b) (hκ : ζ.κ n = η.κ n) : Live P ζ y n b w := by
  obtain ⟨h1, h2, h3⟩ := sameB_ok hy
  obtain ⟨k1, k2, k3⟩ := sameB_ok hz
  refine ⟨hσ, by rw [← h1, k1]; exact h.size, by rw [← h1, ← h2, k1, k2, hκ]; exact h.cap, fun i hi => ?_, by rw [← h2, k2, hκ]; exact h.all⟩
  obtain ⟨v, hv, hr⟩ := h.cell i (by rw [← k1, h1]; exact hi)
  obtain ⟨a1, a2, a3, a4⟩ := eqP_ok (h3 i (by rw [h1]; exact hi))
  obtain ⟨b1, b2, b3, b4⟩ := eqP_ok (k3 i (by rw [h1]; exact hi))
  exact ⟨v, hv, hr.plain (a1.symm.trans b1) (a2.symm.trans b2) (a3.symm.trans b3) b4⟩
theorem Live.heap_same {η : Nv} {x : Blk} {n b : Nat} {w w' : World} (h : Live P η x n b w) (hk : w'.heap[b]? = w.heap[b]?) : Live P η x n b w' := by
  have hc : ∀ i, w'.cell? ⟨b, i, none⟩ = w.cell? ⟨b, i, none⟩ := fun i => by simp only [World.cell?, hk]
  have hf : ∀ i, w'.frozen? ⟨b, i, none⟩ = w.frozen? ⟨b, i, none⟩ := fun i => by simp only [World.frozen?, hk]
  exact ⟨h.σ, h.size, h.cap, fun i hi => by rw [hc]; exact h.cell i hi, fun i hi => by rw [hc, hf]; exact h.all i hi⟩
/-- A start that holds the program's variables gs alone. -/
structure Start (S1 : St) (gs : List Nat) : Prop where
  low : ∀ n ∈ gs, n < 256
  next : 272 ≤ S1.next
  only : ∀ n, n < 32768 → 0 < (blkAt S1 n).size → n ∈ gs
noncomputable def okMemo (S1 : St) (gs : List Nat) (v0 : V) (r : Ans) : Bool := Ans.rec (motive := fun _ => Bool) false (fun v S => Bool.and (matT v0 v) (sameG gs S1 S)) r
/-- A run from the program's variables alone, with plain arguments and a plain answer, stands for the run from every state. -/
theorem memo_ok {call : Caller} (hcal : Cal P ρ call) {g : Nat} {S1 : St} {gs : List Nat} (hS : Start S1 gs) {vs0 : List V} {v0 : V} (hrun : okMemo S1 gs v0 (call g vs0 S1) = true)
    {vs : List V} {S : St} {η : Nv} {args : List Value} {w : World} (hρ : η.ρ = ρ) (hv : VRL η vs args) (hR : Rep P η S w) (hm : matVs vs0 vs = true) (hg : sameG gs S1 S = true) :
    Comes' P g args.toArray w fun x w' => ∃ ζ, Move P η S w ζ S w' ∧ VR ζ v0 x := by
  cases hr : call g vs0 S1 with
  | no => rw [hr] at hrun; cases hrun
  | ok v T =>
    rw [hr] at hrun
    obtain ⟨h1, h2⟩ := and_ok (show Bool.and (matT v0 v) (sameG gs S1 T) = true from hrun)
    let θ : Nv := Nv.mk0 (fun n => if n ∈ gs then η.σ n else none) η.κ η.ρ
    have hle : ∀ n b, θ.σ n = some b → n ∈ gs ∧ η.σ n = some b := by
      intro n b h
      have h : (if n ∈ gs then η.σ n else none) = some b := h
      by_cases hn : n ∈ gs
      · exact ⟨hn, by simpa [θ, hn] using h⟩
      · simp [hn] at h
    have hin : ∀ n b, n ∈ gs → η.σ n = some b → θ.σ n = some b := fun n b hn h => by simp [θ, Nv.mk0, hn, h]
    have hR1 : Rep P θ S1 w := by
      refine ⟨fun n hn hl => ?_, fun n m b hn hm' hl hl' h h' => ?_, fun n hn => ?_, fun n b h => hR.low n b (hle n b h).2, fun n b hn h => hR.own n b hn (hle n b h).2, by have := hS.next; omega, trivial, fun _ h => h.elim⟩
      · have hgn := hS.only n hn hl
        have hb := sameG_ok hg n hgn
        obtain ⟨b, hlv⟩ := hR.live n hn (by have := (sameB_ok hb).1; omega)
        exact ⟨b, hlv.same hb (hin n b hgn hlv.σ) rfl⟩
      · have hb := sameG_ok hg n (hle n b h).1
        have hb' := sameG_ok hg m (hle m b h').1
        exact hR.inj n m b hn hm' (by have := (sameB_ok hb).1; omega) (by have := (sameB_ok hb').1; omega) (hle n b h).2 (hle m b h').2
      · have hn' : n ∉ gs := fun h => by have := hS.low n h; have := hS.next; omega
        simp [θ, Nv.mk0, hn']
    obtain ⟨-, hc⟩ := hcal.ok g vs0 S1 v T θ args w hρ (hv.mat hm) hR1 hr
    have hfin : ∀ x w', (∃ ζ, Move P θ S1 w ζ T w' ∧ VR ζ v x) → ∃ ζ, Move P η S w ζ S w' ∧ VR ζ v0 x := by
      rintro x w' ⟨ζ, hmv, hx⟩
      have hkeep : ∀ n b, n < 32768 → 0 < (blkAt S n).size → η.σ n = some b → n ∉ gs → w'.heap[b]? = w.heap[b]? := by
        intro n b hn hl hb hng
        refine hmv.fr.block b (hR.low n b hb) (fun m _ hm' hml hmb => ?_)
        obtain ⟨hmg, hmb'⟩ := hle m b hmb
        have hbb := sameG_ok hg m hmg
        have : n = m := hR.inj n m b hn hm' hl (by have := (sameB_ok hbb).1; omega) hb hmb'
        exact hng (this ▸ hmg)
      refine ⟨η, ⟨⟨Nv.le.refl η, Nat.le_refl _, fun n b hn hl hb => .inr ⟨n, id, hn, hl, hb⟩, fun _ _ => rfl⟩, ⟨fun n hn hl => ?_, hR.inj, hR.new, fun n b h => Nat.lt_of_lt_of_le (hR.low n b h) hmv.fr.size, hR.own, hR.top, η.st _ _ (fun b hb => hmv.fr.block b (hR.foot b hb).1 (fun m h0 hm hl => by have := hS.low m (hS.only m hm hl); omega)) hR.inv, fun b hb => ⟨Nat.lt_of_lt_of_le (hR.foot b hb).1 hmv.fr.size, (hR.foot b hb).2⟩⟩, ⟨hmv.fr.os, hmv.fr.tape, hmv.fr.output, hmv.fr.size, fun b hb hnb => ?_⟩⟩, hx.matT h1⟩
      · obtain ⟨b, hlv⟩ := hR.live n hn hl
        by_cases hng : n ∈ gs
        · have hb1 := sameG_ok hg n hng
          have hb2 := sameG_ok h2 n hng
          obtain ⟨b', hlv'⟩ := hmv.rep.live n hn (by have := (sameB_ok hb1).1; have := (sameB_ok hb2).1; omega)
          have hθ := hin n b hng hlv.σ
          have e := hmv.ext.le.σ n b hθ
          have hbb : b = b' := by have := hlv'.σ; rw [e] at this; injection this
          subst hbb
          exact ⟨b, hlv'.back hb1 hb2 hlv.σ (hmv.ext.le.κ n b hθ).symm⟩
        · have hk := hkeep n b hn hl hlv.σ hng
          exact ⟨b, hlv.heap_same hk⟩
      · refine hmv.fr.block b hb (fun m hm0 hm' hml hmb => ?_)
        obtain ⟨hmg, hmb'⟩ := hle m b hmb
        have hbb := sameG_ok hg m hmg
        exact hnb m hm0 hm' (by have := (sameB_ok hbb).1; omega) hmb'
    rcases hc with ⟨he, hc⟩ | ⟨x, w', he, hx⟩
    · refine .inl ⟨he, hc.mono ?_⟩
      rintro e w' ⟨x, rfl, hx⟩
      exact ⟨x, rfl, hfin x w' hx⟩
    · exact .inr ⟨x, w', he, hfin x w' hx⟩
end Go.Exec

namespace Go.Exec
open Go
variable {P : Program} {N : Nat} {ρ : Nat → Int} {H : Hy}
/-- A listed table lies in its variable's block, whole and unfrozen. -/
theorem laid_block {W : World} {name : String} {k : IntKind} {zs : List Int} {rest : List (String × DataW Unit)} {g : Nat} {t e : TypeId} {n : Nat}
    (hg : P.globalNamed name = some g) (hty : (P.globals[g]?).map (·.type) = some t) (ht : P.underlying t = some (.array n e)) (he : P.underlying e = some (.int k)) (hce : P.cellsOf e = 1) (hct : P.cellsOf t = n) (hz : 0 < zs.length)
    (h : laidMet P ((name, Lib.tabData k zs) :: rest) W) : ∃ t', W.heap[g]? = some (.cells (zs.map fun z => Value.int k z).toArray t' (0, 0)) := by
  have hT := Lib.tabIs_of_head hg hty ht he hce hct h
  obtain ⟨ps, ⟨g', t', cs, fuel, p, q, hg', ht', hvar, hd, -, rfl⟩, -, hc⟩ := h
  obtain rfl := Option.some.inj (hg.symm.trans hg')
  have hcs : cs = (zs.map fun z => Value.int k z).toArray := by
    unfold Lib.TabIs at hT
    rw [hvar] at hT
    injection hT
  subst hcs
  obtain ⟨⟨c, t2, h2⟩, -⟩ := hc g 0 (by simp [MemPlace.row]; exact .inl hz)
  refine ⟨t2, ?_⟩
  unfold World.var? at hvar
  rw [hg] at hvar
  simp only [Option.bind_some, h2] at hvar
  injection hvar with hvar
  rw [h2, hvar]
/-- The state that holds one table of bytes. -/
noncomputable def globSt (g e n : Nat) (f : Nat → Nat) : St := ⟨(updH g).f ⟨n, e, tabC (fun i => ⟨20, f i, 0, 0, 0, [], []⟩)⟩ (st0 256).heap, 272, []⟩
def globNv (ρ : Nat → Int) (g n : Nat) : Nv := Nv.mk0 (fun m => if m = g then some g else none) (fun _ => n) ρ
theorem glob_blk (g e n : Nat) (f : Nat → Nat) : blkAt (globSt g e n f) g = ⟨n, e, tabC (fun i => ⟨20, f i, 0, 0, 0, [], []⟩)⟩ := blkAt_up_same (st0 256) g 272 _ []
theorem glob_only {g e n : Nat} {f : Nat → Nat} (hg : g < 256) : ∀ m, m < 32768 → 0 < (blkAt (globSt g e n f) m).size → m = g := by
  intro m hm hl
  by_cases h : m = g
  · exact h
  · have e1 : blkAt (globSt g e n f) m = blkAt (st0 256) m := blkAt_up_ne (st0 256) 272 _ [] (by omega) hm (Ne.symm h)
    rw [e1, st0_dead] at hl
    exact absurd hl (Nat.lt_irrefl 0)
theorem glob_start {g e n : Nat} {f : Nat → Nat} (hg : g < 256) : Start (globSt g e n f) [g] :=
  ⟨fun m hm => by simp at hm; omega, show 272 ≤ 272 from Nat.le_refl _, fun m hm hl => by rw [glob_only hg m hm hl]; exact List.mem_singleton.2 rfl⟩
theorem glob_rep {g e n : Nat} {f : Nat → Nat} {zs : List Int} {W : World} {t' : TypeId} (hg : g < 256) (hn : zs.length = n) (hn2 : n ≤ 32768) (hs : sizeT P e = 1) (hw : W.heap[g]? = some (.cells (zs.map fun z => Value.int .u8 z).toArray t' (0, 0)))
    (hf : ∀ i, i < n → f i < 256 ∧ zs[i]? = some (f i : Int)) : Rep P (globNv ρ g n) (globSt g e n f) W := by
  have hlt : g < W.heap.size := by
    obtain ⟨h, -⟩ := Array.getElem?_eq_some_iff.1 hw
    exact h
  refine ⟨fun m hm hl => ?_, fun m m' b hm hm' hl hl' h h' => by rw [glob_only hg m hm hl, glob_only hg m' hm' hl'], fun m hm => ?_, fun m b h => ?_, fun m b hm h => ?_, show 256 ≤ 272 by decide, trivial, fun _ h => h.elim⟩
  · obtain rfl := glob_only hg m hm hl
    refine ⟨m, by simp [globNv, Nv.mk0], ?_, ?_, fun i hi => ?_, fun i hi => ?_⟩
    · rw [glob_blk]; exact hn2
    · rw [glob_blk]; show n ≤ n * sizeT P e; rw [hs]; omega
    · rw [glob_blk] at hi ⊢
      have hi : i < n := hi
      obtain ⟨h1, h2⟩ := hf i hi
      refine ⟨.int .u8 (f i : Int), ?_, ?_⟩
      · simp only [World.cell?, hw]
        simp [h2]
      · show SR _ ((accC i).f (tabC _)) _
        rw [accC_tabC _ (by omega)]
        have := SR.int (η := globNv ρ m n) (s := ⟨20, f i, 0, 0, 0, [], []⟩) .u8 rfl h1
        rw [wrap_nat .u8 (a := f i) h1, if_pos (.inl rfl)] at this
        exact this
    · rw [glob_blk] at hi
      have hi : i < n := by have : i < n * sizeT P e := hi; rw [hs] at this; omega
      obtain ⟨h1, h2⟩ := hf i hi
      refine ⟨?_, ?_⟩
      · simp only [World.cell?, hw]
        simp [h2]
      · simp [World.frozen?, hw]
  · have : m ≠ g := by have : 272 ≤ m := hm; omega
    simp [globNv, Nv.mk0, this]
  · simp only [globNv, Nv.mk0] at h
    split at h
    · injection h with h; omega
    · cases h
  · simp only [globNv, Nv.mk0] at h
    split at h
    · injection h with h; omega
    · cases h
end Go.Exec

namespace Go.Exec
open Go
variable {P : Program} {N : Nat} {ρ : Nat → Int} {H : Hy}
/-- The method of a type by its name, where the receiver is handed on as it is. -/
noncomputable def mthP (P : Program) : Nat → String → Option Nat := fun t m =>
  match P.info? t with
  | some i => (match i.methods.find? (fun x => x.name == m) with
    | some x => (match x.path.toList, x.func, P.underlying t with
      | [], some (f, true), some (.pointer _) => some f
      | [], some (_, false), some (.pointer _) => none
      | [], some (f, false), some _ => some f
      | _, _, _ => none)
    | none => none)
  | none => none
theorem mthP_ok : MthOk P (mthP P) := by
  intro t m g h v w
  unfold mthP at h
  split at h
  · rename_i i hi
    split at h
    · rename_i x hx
      have hti : (typeInfo t).run P w = .ok i w := run_typeInfo w hi
      have hrun : ∀ u d, P.underlying t = some d → (underlying t).run P u = .ok d u := fun u d hd => run_underlying hd u
      split at h
      · rename_i f e he1 he2 he3
        injection h with h
        subst h
        rw [show P.types.size + Made.depth = (P.types.size + 99) + 1 from rfl]
        unfold method
        simp only [Sem.run_bind, hti, Result.andThen_ok, hx, he1, follow, Sem.run_pure, he2, receiverAt, hrun w _ he3, Place.get]
      · cases h
      · rename_i f d hne he1 he2 he3
        injection h with h
        subst h
        rw [show P.types.size + Made.depth = (P.types.size + 99) + 1 from rfl]
        unfold method
        simp only [Sem.run_bind, hti, Result.andThen_ok, hx, he1, follow, Sem.run_pure, he2, receiverAt, hrun w _ he3, Place.get]
      · cases h
    · cases h
  · cases h
/-- What is said of one given function. -/
def OneOk (P : Program) (ρ : Nat → Int) (g : Nat) (c : FnC) : Prop :=
  ∀ call, Cal P ρ call → ∀ vs S v S' η args w, η.ρ = ρ → VRL η vs args → Rep P η S w → c.f call vs S = .ok v S' → S'.ds = S.ds ∧ Comes' P g args.toArray w fun x w' => ∃ ζ, Move P η S w ζ S' w' ∧ VR ζ v x
noncomputable def spec0 : Nat → Option FnC := fun _ => none
noncomputable def specAdd (g0 : Nat) (c : FnC) (sp : Nat → Option FnC) : Nat → Option FnC := fun g => Bool.rec (motive := fun _ => Option FnC) (sp g) (some c) (Nat.beq g g0)
theorem spec0_ok : SpecOk P ρ spec0 := fun g c h => by cases h
theorem specAdd_ok {g0 : Nat} {c : FnC} {sp : Nat → Option FnC} (h : OneOk P ρ g0 c) (hs : SpecOk P ρ sp) : SpecOk P ρ (specAdd g0 c sp) := by
  intro g d hd call hcal vs S v S' η args w hρ hv hR hr
  unfold specAdd at hd
  cases hb : Nat.beq g g0 with
  | false => rw [hb] at hd; exact hs g d hd call hcal vs S v S' η args w hρ hv hR hr
  | true =>
    rw [hb] at hd
    injection hd with hd
    subst hd
    rw [beq_ok hb]
    exact h call hcal vs S v S' η args w hρ hv hR hr
theorem once_one {g : Nat} (hO : OnceLaws P g) (hg : fnOk P g = true) : OneOk P ρ g (onceC P) := fun call hcal vs S v S' η args w hρ hv hR h => once_spec hO call hcal vs S v S' η args w hρ hv hR h hg
theorem add_one {g : Nat} (hA : AddLaw P g) : OneOk P ρ g addC := fun call _ vs S v S' η args w _ hv hR h => add_spec hA vs S v S' η args w call hv hR h
theorem noZero_one {g e : Nat} (hZ : NoZeroLaw P g e) (hs : sizeT P e = 1) : OneOk P ρ g (noZeroC e) := fun call _ vs S v S' η args w _ hv hR h => noZero_spec hZ hs vs S v S' η args w call hv hR h
theorem fn_one {D : Nat → Draw} {mth : Nat → String → Option Nat} {idle : Nat → Nat → Bool} (hI : IdleOk P idle) (hH : HyAt P ρ H) (hmth : MthOk P mth) (hD : DrawOk P ρ H mth D) (g : Nat) : OneOk P ρ g (fnC D H P mth spec0 idle g) :=
  fun _ hcal _ _ _ _ _ _ _ hρ hv hR h => fnC_ok hI hH hmth hD spec0_ok hcal g hρ hv hR h
/-- A function that is not run at all. -/
noncomputable def badF : FnC := ⟨fun _ _ _ => .no⟩
theorem bad_one {g : Nat} : OneOk P ρ g badF := fun _ _ _ _ _ _ _ _ _ _ _ _ h => by cases h
/-- A call whose answer is known: see memo_ok. -/
def Memo (P : Program) (ρ : Nat → Int) (S1 : St) (gs : List Nat) (g : Nat) (vs0 : List V) (v0 : V) : Prop :=
  ∀ (vs : List V) (S : St) (η : Nv) (args : List Value) (w : World), η.ρ = ρ → VRL η vs args → Rep P η S w → matVs vs0 vs = true → sameG gs S1 S = true → Comes' P g args.toArray w fun x w' => ∃ ζ, Move P η S w ζ S w' ∧ VR ζ v0 x
/-- known answers first, else as c says -/
noncomputable def memoC (S1 : St) (gs : List Nat) (es : List (List V × V)) (c : FnC) : FnC :=
  ⟨fun call vs S => List.rec (motive := fun _ => Ans) (c.f call vs S) (fun e _ ih => iff (matVs e.1 vs) (iff (sameG gs S1 S) (.ok e.2 S) ih) ih) es⟩
theorem memo_one {g : Nat} {S1 : St} {gs : List Nat} {c : FnC} (hc : OneOk P ρ g c) : ∀ {es : List (List V × V)}, (∀ e ∈ es, Memo P ρ S1 gs g e.1 e.2) → OneOk P ρ g (memoC S1 gs es c)
  | [], _ => hc
  | e :: es, he => by
    intro call hcal vs S v S' η args w hρ hv hR h
    have hrest := memo_one hc (es := es) (fun x hx => he x (List.mem_cons_of_mem _ hx)) call hcal vs S v S' η args w hρ hv hR
    rcases iff_ok (show iff (matVs e.1 vs) (iff (sameG gs S1 S) (.ok e.2 S) ((memoC S1 gs es c).f call vs S)) ((memoC S1 gs es c).f call vs S) = .ok v S' from h) with ⟨h1, h2⟩ | ⟨h1, h2⟩
    · rcases iff_ok h2 with ⟨h3, h4⟩ | ⟨h3, h4⟩
      · cases h4
        exact ⟨rfl, he e List.mem_cons_self vs S η args w hρ hv hR h1 h3⟩
      · exact hrest h4
    · exact hrest h2
/-- Idle deferred functions, one by one. -/
noncomputable def idle0 : Nat → Nat → Bool := fun _ _ => false
noncomputable def idleAdd (g0 k0 : Nat) (i : Nat → Nat → Bool) : Nat → Nat → Bool := fun g k => Bool.rec (motive := fun _ => Bool) (i g k) true (Bool.and (Nat.beq g g0) (Nat.beq k k0))
theorem idle0_ok : IdleOk P idle0 := fun _ _ h => by cases h
theorem idleAdd_ok {g0 k0 : Nat} {i : Nat → Nat → Bool} (h : ∀ (args : Array Value) (w : World), args.size = k0 → CallsD P g0 args .returning w fun e u' w' => (∃ v, e = .returned v) ∧ u' = .returning ∧ w' = w) (hi : IdleOk P i) : IdleOk P (idleAdd g0 k0 i) := by
  intro g k hk
  unfold idleAdd at hk
  cases hb : Bool.and (Nat.beq g g0) (Nat.beq k k0) with
  | false => rw [hb] at hk; exact hi g k hk
  | true =>
    obtain ⟨h1, h2⟩ := and_ok hb
    rw [beq_ok h1, beq_ok h2]
    exact h
noncomputable def hy0 : Hy := ⟨fun _ _ _ _ => none, fun _ _ _ _ => none, fun _ _ _ => none, fun _ _ => none⟩
theorem hy0_ok : HyAt P ρ hy0 where
  bin := fun _ _ _ _ _ _ _ _ _ _ _ h => by cases h
  sh := fun _ _ _ _ _ _ _ _ _ _ h => by cases h
  conv := fun _ _ _ _ _ _ _ h => by cases h
  neg := fun _ _ _ _ _ _ h => by cases h
end Go.Exec

namespace Go.Exec
open Go
variable {P : Program} {N : Nat} {ρ : Nat → Int} {H : Hy}
/-- A variable that is an int. -/
noncomputable def mkVar (i : Nat) : V := vS ⟨24, i, 19, 0, 0, [], []⟩
theorem VR.mkVar {η : Nv} (i : Nat) : VR η (mkVar i) (.int .i64 (η.ρ i)) := .sc (.var (s := ⟨24, i, 19, 0, 0, [], []⟩) .i64 rfl rfl)
theorem VR.vT (η : Nv) : VR η vT (.bool true) := .sc (.bool (s := ⟨1, 1, 0, 0, 0, [], []⟩) true rfl rfl)
theorem VR.vF (η : Nv) : VR η vF (.bool false) := .sc (.bool (s := ⟨1, 0, 0, 0, 0, [], []⟩) false rfl rfl)
noncomputable def mkB (b : Bool) : V := Bool.rec (motive := fun _ => V) vF vT b
theorem VR.mkB (η : Nv) (b : Bool) : VR η (mkB b) (.bool b) := by cases b; exact VR.vF η; exact VR.vT η
theorem wrap_wrap (k : IntKind) (n : Int) : k.wrap (k.wrap n) = k.wrap n := wrap_congr k (wrap_mod k n)
noncomputable def unkS (k : IntKind) : Sc := ⟨25, 0, kcode k, 0, 0, [], []⟩
theorem SR.unkS {η : Nv} (k : IntKind) {n : Int} (h : k.wrap n = n) : SR η (Go.Exec.unkS k) (.int k n) := .ints k _ rfl rfl h
noncomputable def aryB (op : BinOp) : Bool := match op with | .add => true | .sub => true | .mul => true | .and => true | .or => true | .xor => true | .andNot => true | _ => false
/-- Answers of a list of known ones (f on two operands, c at conversions); else only the kind is known, where that is enough. -/
noncomputable def hyU (f : BinOp → IntKind → Sc → Sc → Option Sc) (c : IntKind → IntKind → Sc → Option Sc) : Hy where
  bin := fun op k s t => Option.rec (motive := fun _ => Option Sc) (Bool.rec (motive := fun _ => Option Sc) none (some (unkS k)) (aryB op)) some (f op k s t)
  sh := fun op k s _ => match op with
    | .shl => some (unkS k)
    | .shr => Bool.rec (motive := fun _ => Option Sc) none (some (unkS k)) (Nat.beq s.tag 25)
    | _ => none
  conv := fun k k' s => Option.rec (motive := fun _ => Option Sc) (some (unkS k')) some (c k k' s)
  neg := fun k _ => some (unkS k)
def BinAt (P : Program) (ρ : Nat → Int) (f : BinOp → IntKind → Sc → Sc → Option Sc) : Prop :=
  ∀ op k s1 s2 s (η : Nv) t w n m, η.ρ = ρ → f op k s1 s2 = some s → SR η s1 (.int k n) → SR η s2 (.int k m) → op ≠ .shl → op ≠ .shr → ∃ y, (binOp op t (.int k n) (.int k m)).run P w = .ok y w ∧ SR η s y
def ConvAt (ρ : Nat → Int) (c : IntKind → IntKind → Sc → Option Sc) : Prop :=
  ∀ k k' s1 s (η : Nv) n, η.ρ = ρ → c k k' s1 = some s → SR η s1 (.int k n) → SR η s (.int k' (k'.wrap n))
theorem SR.some_range {η : Nv} {s : Sc} {k : IntKind} {n : Int} (h : SR η s (.int k n)) (ht : s.tag = 25) : k.wrap n = n := by
  cases h with
  | unk h h1 => omega
  | int k h ha => have := kcode_ge k; omega
  | var k h hb => omega
  | ints k n h hb hn => exact hn
theorem hyU_ok {f : BinOp → IntKind → Sc → Sc → Option Sc} {c : IntKind → IntKind → Sc → Option Sc} (hf : BinAt P ρ f) (hc : ConvAt ρ c) : HyAt P ρ (hyU f c) where
  bin := by
    intro op k s1 s2 s η t w n m hρ h h1 h2 hsl hsr
    cases hfs : f op k s1 s2 with
    | some r =>
      have e : some r = some s := by rw [← h]; simp only [hyU, hfs]
      injection e with e
      subst e
      exact hf op k s1 s2 _ η t w n m hρ hfs h1 h2 hsl hsr
    | none =>
      have e : Bool.rec (motive := fun _ => Option Sc) none (some (unkS k)) (aryB op) = some s := by rw [← h]; simp only [hyU, hfs]
      cases ha : aryB op with
      | false => rw [ha] at e; cases e
      | true =>
        rw [ha] at e
        injection e with e
        subst e
        cases op with
        | add => exact ⟨_, by rw [binOp_add]; rfl, .unkS k (wrap_wrap k _)⟩
        | sub => exact ⟨_, by rw [binOp_sub]; rfl, .unkS k (wrap_wrap k _)⟩
        | mul => exact ⟨_, by rw [binOp_mul]; rfl, .unkS k (wrap_wrap k _)⟩
        | and => exact ⟨_, by rw [binOp_and]; rfl, .unkS k (wrap_wrap k _)⟩
        | or => exact ⟨_, by rw [binOp_or]; rfl, .unkS k (wrap_wrap k _)⟩
        | xor => exact ⟨_, by rw [binOp_xor]; rfl, .unkS k (wrap_wrap k _)⟩
        | andNot => exact ⟨_, by rw [binOp_andNot]; rfl, .unkS k (wrap_wrap k _)⟩
        | _ => cases ha
  sh := by
    intro op k j s1 c s η w n hρ h hc1 h1 hop
    rcases hop with rfl | rfl
    · have e : some (unkS k) = some s := h
      injection e with e
      subst e
      refine ⟨_, by unfold Op.shift; rw [if_neg (by omega)]; rfl, .unkS k (wrap_wrap k _)⟩
    · have e : Bool.rec (motive := fun _ => Option Sc) none (some (unkS k)) (Nat.beq s1.tag 25) = some s := h
      cases hb : Nat.beq s1.tag 25 with
      | false => rw [hb] at e; cases e
      | true =>
        rw [hb] at e
        injection e with e
        subst e
        have hn := h1.some_range (beq_ok hb)
        refine ⟨_, by unfold Op.shift; rw [if_neg (by omega)]; rfl, .unkS k ?_⟩
        rw [Int.toNat_natCast]
        have hr : n = k.wrap (((n % (kmod k : Int)).toNat : Nat) : Int) := by rw [wrap_res, hn]
        obtain ⟨e1, -⟩ := shrN_val k c (res_lt k n)
        rw [hr, e1, wrap_wrap]
  conv := by
    intro k k' s1 s η n hρ h h1
    cases hcs : c k k' s1 with
    | some r =>
      have e : some r = some s := by rw [← h]; simp only [hyU, hcs]
      injection e with e
      subst e
      exact hc k k' s1 _ η n hρ hcs h1
    | none =>
      have e : some (unkS k') = some s := by rw [← h]; simp only [hyU, hcs]
      injection e with e
      subst e
      exact .unkS k' (wrap_wrap k' n)
  neg := by
    intro k s1 s η n hρ h h1
    have e : some (unkS k) = some s := h
    injection e with e
    subst e
    exact .unkS k (wrap_wrap k _)
/-- no conversion is known -/
noncomputable def conv0 : IntKind → IntKind → Sc → Option Sc := fun _ _ _ => none
theorem conv0_ok : ConvAt ρ conv0 := fun _ _ _ _ _ _ _ h => by cases h
/-- A row: what an operation of a variable (its number) with a plain number (its residue) gives, all of 64 bits with a sign. -/
structure BRow where
  op : Nat
  i : Nat
  c : Nat
  s : Sc
def opN (op : BinOp) : Nat := match op with | .add => 0 | .sub => 1 | .mul => 2 | .quo => 3 | .rem => 4 | .and => 5 | .or => 6 | .xor => 7 | .andNot => 8 | .eql => 11 | .neq => 12 | .lss => 13 | .leq => 14 | .gtr => 15 | .geq => 16 | _ => 99
noncomputable def isI64 (k : IntKind) : Bool := match k with | .i64 => true | _ => false
noncomputable def tabF (l : List BRow) : BinOp → IntKind → Sc → Sc → Option Sc := fun op k s t =>
  Bool.rec (motive := fun _ => Option Sc) none (List.rec (motive := fun _ => Option Sc) none (fun e _ ih => Bool.rec (motive := fun _ => Option Sc) ih (some e.s) (Bool.and (Nat.beq e.op (opN op)) (Bool.and (Nat.beq e.i s.a) (Nat.beq e.c t.a)))) l)
    (Bool.and (isI64 k) (Bool.and (Nat.beq s.tag 24) (Nat.beq t.tag 19)))
/-- A row holds. -/
def RowAt (P : Program) (ρ : Nat → Int) (e : BRow) : Prop :=
  ∀ op (η : Nv) t w, η.ρ = ρ → opN op = e.op → op ≠ .shl → op ≠ .shr → e.c < 18446744073709551616 → ∃ y, (binOp op t (.int .i64 (ρ e.i)) (.int .i64 (IntKind.i64.wrap e.c))).run P w = .ok y w ∧ SR η e.s y
theorem tabF_ok {l : List BRow} (h : ∀ e ∈ l, RowAt P ρ e) : BinAt P ρ (tabF l) := by
  intro op k s1 s2 s η t w n m hρ hs h1 h2 hsl hsr
  cases hb : Bool.and (isI64 k) (Bool.and (Nat.beq s1.tag 24) (Nat.beq s2.tag 19)) with
  | false => simp only [tabF, hb] at hs; cases hs
  | true =>
    simp only [tabF, hb] at hs
    obtain ⟨h3, h4⟩ := and_ok hb
    obtain ⟨h5, h6⟩ := and_ok h4
    have hk : k = .i64 := by cases k <;> first | rfl | cases h3
    subst hk
    have e1 : n = ρ s1.a := by
      have hsa : SR η s1 (.int .i64 n) := h1
      cases hsa with
      | unk h h' => have := beq_ok h5; omega
      | int k h ha => have := beq_ok h5; have := kcode_ge .i64; omega
      | var k h hb => rw [hρ]
      | ints k n h hb hn => have := beq_ok h5; omega
    obtain ⟨e2, l2⟩ := h2.asInt (k := .i64) (beq_ok h6)
    injection e2 with _ e2
    have key : ∀ (l : List BRow), (∀ e ∈ l, RowAt P ρ e) → List.rec (motive := fun _ => Option Sc) none (fun e _ ih => Bool.rec (motive := fun _ => Option Sc) ih (some e.s) (Bool.and (Nat.beq e.op (opN op)) (Bool.and (Nat.beq e.i s1.a) (Nat.beq e.c s2.a)))) l = some s →
        ∃ y, (binOp op t (.int .i64 (ρ s1.a)) (.int .i64 (IntKind.i64.wrap s2.a))).run P w = .ok y w ∧ SR η s y := by
      intro l
      induction l with
      | nil => intro _ hh; cases hh
      | cons e l ih =>
        intro hl hh
        cases hc : Bool.and (Nat.beq e.op (opN op)) (Bool.and (Nat.beq e.i s1.a) (Nat.beq e.c s2.a)) with
        | false => simp only [hc] at hh; exact ih (fun x hx => hl x (List.mem_cons_of_mem _ hx)) hh
        | true =>
          simp only [hc] at hh
          injection hh with hh
          subst hh
          obtain ⟨k1, k2⟩ := and_ok hc
          obtain ⟨k3, k4⟩ := and_ok k2
          have := hl e List.mem_cons_self op η t w hρ (beq_ok k1).symm hsl hsr (by rw [beq_ok k4]; exact l2)
          rw [beq_ok k3, beq_ok k4] at this
          exact this
    rw [e1, e2]
    exact key l h hs
def bitsOf (x : Int) (c : Nat) : Nat := (BitVec.ofInt 64 x &&& BitVec.ofNat 64 c).toNat
theorem bitsOf_le (x : Int) {c : Nat} (hc : c < 18446744073709551616) : bitsOf x c ≤ c := by
  unfold bitsOf
  rw [BitVec.toNat_and, BitVec.toNat_ofNat, Nat.mod_eq_of_lt hc]
  exact Nat.and_le_right
/-- the bits under a mask -/
noncomputable def andRow (i c r : Nat) : BRow := ⟨5, i, c, ⟨19, r, 0, 0, 0, [], []⟩⟩
theorem opN_and {op : BinOp} (h : opN op = 5) : op = .and := by cases op <;> first | rfl | (simp [opN] at h)
theorem andRow_ok {i c r : Nat} (h : bitsOf (ρ i) c = r) : RowAt P ρ (andRow i c r) := by
  intro op η t w hρ hop hsl hsr hc
  obtain rfl := opN_and hop
  have hr : r < kmod .i64 := by
    have := bitsOf_le (ρ i) (c := c) hc
    rw [h] at this
    exact Nat.lt_of_le_of_lt this hc
  refine ⟨_, by rw [binOp_and]; rfl, ?_⟩
  show SR η _ (.int .i64 (IntKind.i64.wrap ((BitVec.ofInt IntKind.i64.bits (ρ i) &&& BitVec.ofInt IntKind.i64.bits (IntKind.i64.wrap (c : Int))).toNat : Nat)))
  rw [ofInt_wrap]
  have e' : (BitVec.ofInt IntKind.i64.bits (ρ i) &&& BitVec.ofNat IntKind.i64.bits c).toNat = r := h
  rw [e']
  exact .int (s := ⟨19, r, 0, 0, 0, [], []⟩) .i64 rfl hr
/-- the runner of a law with such rows -/
noncomputable def hyT (l : List BRow) : Hy := hyU (tabF l) conv0
theorem hyT_ok {l : List BRow} (h : ∀ e ∈ l, RowAt P ρ e) : HyAt P ρ (hyT l) := hyU_ok (tabF_ok h) conv0_ok
/-- A law that ends in true, from a state that holds one table. -/
theorem closed_glob {call : Caller} (hcal : Cal P ρ call) {g : Nat} {vs : List V} {args : List Value} {η : Nv} {S : St} {gs : List Nat} {w : World} (hS : Start S gs) (hρ : η.ρ = ρ) (hv : VRL η vs args) (hR : Rep P η S w) (hent : (callFunc g args.toArray).run P w = .ok (.enter g args.toArray) w) (h : okTrue (call g vs S) = true) :
    Calls P g args.toArray w fun e w' => e = .returned (.bool true) ∧ w'.os = w.os ∧ w'.tape = w.tape ∧ w'.output = w.output ∧ w.heap.size ≤ w'.heap.size ∧ ∀ k, k < w.heap.size → w'.heap[k]? = w.heap[k]? :=
  (closed_at hcal hρ hv hR hent h).mono fun _ _ ⟨h1, h2⟩ => ⟨h1, h2.os, h2.tape, h2.output, h2.size, fun k hk => h2.block k hk (fun m h0 hm hl => by have := hS.low m (hS.only m hm hl); omega)⟩
end Go.Exec
