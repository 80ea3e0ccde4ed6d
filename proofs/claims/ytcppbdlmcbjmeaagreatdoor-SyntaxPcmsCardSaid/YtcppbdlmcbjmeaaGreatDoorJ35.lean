/-
  A macroblock of a slice of type I: what is asked of its coder, that it may be asked, and what the walk leaves. The walk over any macroblock of a slice of type I; what is asked of its coder may be asked. The walk over package syntax's begin: a slice's state at first.
-/
import Derived.Test.YtcppbdlmcbjmeaaGreatDoorJ18
import Derived.Test.YtcppbdlmcbjmeaaGreatDoorJ19
import Derived.Test.YtcppbdlmcbjmeaaGreatDoorJ17
import Derived.Test.YtcppbdlmcbjmeaaGreatDoorJ22
import Derived.Test.YtcppbdlmcbjmeaaGreatDoorJ34
import Derived.Laws.Tables
namespace Go.Proofs.YtcppbdlmcbjmeaaGreatDoor
open Go.RowKit

/-- How far Qp goes. -/
def dqp (p q : Int) : Int := if 25 < q - p then q - p - 52 else if q - p < -26 then q - p + 52 else q - p
theorem dqp_is {p q : Int} (hp : 0 ≤ p ∧ p ≤ 51) (hq : 0 ≤ q ∧ q ≤ 51) : -26 ≤ dqp p q ∧ dqp p q ≤ 25 ∧ q = (p + dqp p q + 52) % 52 := by
  unfold dqp
  split
  · omega
  · split <;> omega
def lumaN (y : Nat → Int) : Nat := (y 48).toNat % 16
def chromaN (y : Nat → Int) : Nat := (y 48).toNat / 16
def incN (ds : List DoneP) (f wide : Nat) : Int := flagN (decide (0 < leftC ds (leftN f wide ds.length)))
/-- What is asked of a macroblock's coder. -/
def mbAsk (f wide : Nat) (ds : List DoneP) (p : Int) (y ps : Nat → Int) : List Ask :=
  .elem 1 (countN withinB ds f wide ds.length) (y 0) 2 ::
    (if y 0 = 2 then pcmAsk ((List.range 384).map ps)
     else if y 0 = 1 then .elem 4 0 (y 18) 3 :: .elem 5 0 (y 19) 3 :: restAsk 1 (lumaN y) (chromaN y) (dqp p (y 49)) (incN ds f wide) y
     else modesAsk (fun b => modeAsk (usualB ds f wide ds.length (fun i => y (2 + i)) b) (y (2 + b))) 16 ++ (.elem 5 0 (y 19) 3 :: restAsk 0 (lumaN y) (chromaN y) (dqp p (y 49)) (incN ds f wide) y))
/-- Qp behind a macroblock. -/
def nextP (p : Int) (y : Nat → Int) : Int := if y 0 = 2 then p else if toldB (y 0) (y 48) = true then y 49 else p
/-- What is known of those behind. -/
structure Behind (ds : List DoneP) (p : Int) : Prop where
  qp : 0 ≤ p ∧ p ≤ 51
  cbp : ∀ d ∈ ds, 0 ≤ d.cbp ∧ d.cbp ≤ 47
  modes : ∀ d ∈ ds, d.kind = 0 → ∀ i, i < 16 → 0 ≤ d.modes i ∧ d.modes i ≤ 8
/-- A macroblock of a slice of type I that may be: its values, its samples. -/
structure IntraOk (y ps : Nat → Int) : Prop where
  body : bodyOk y (if y 0 = 2 then 384 else 0) 2
  parts : noParts y
  pcm : ∀ i, i < 384 → 0 ≤ ps i ∧ ps i ≤ 255
theorem IntraOk.kind {y ps : Nat → Int} (h : IntraOk y ps) : y 0 = 0 ∨ y 0 = 1 ∨ y 0 = 2 := by
  have := h.body.1
  unfold hasP at this
  omega
theorem IntraOk.cbp {y ps : Nat → Int} (h : IntraOk y ps) : 0 ≤ y 48 ∧ y 48 ≤ 47 ∧ y 48 = lumaN y + 16 * chromaN y ∧ lumaN y ≤ 15 ∧ chromaN y ≤ 2 := by
  obtain ⟨L, G, h1, h2, h3, -⟩ := h.body.2.2.2.1
  unfold lumaN chromaN
  omega
theorem IntraOk.coefs {y ps : Nat → Int} (h : IntraOk y ps) : (y 0 = 1 → lumaN y = 0 ∨ lumaN y = 15) ∧ (∀ b, b < 24 → blkOk y (lumaN y) (chromaN y) b) ∧ ∀ k, k < 3 → dcOk y (chromaN y) k :=
  (coefsOk_iff h.cbp.2.2.2.1 h.cbp.2.2.2.2 h.cbp.2.2.1).1 h.body.2.2.2.1
theorem IntraOk.range {y ps : Nat → Int} (h : IntraOk y ps) {j : Nat} (h0 : 50 ≤ j) (h1 : j < 482) : -32767 ≤ y j ∧ y j ≤ 32767 := by
  by_cases hj : j < 434
  · have := (h.coefs.2.1 ((j - 50) / 16) (by omega)).2.2 ((j - 50) % 16) (by omega)
    rwa [show 50 + (j - 50) / 16 * 16 + (j - 50) % 16 = j by omega] at this
  · have := (h.coefs.2.2 ((j - 434) / 16) (by omega)).2.2 ((j - 434) % 16) (by omega)
    rwa [show 434 + (j - 434) / 16 * 16 + (j - 434) % 16 = j by omega] at this
theorem IntraOk.rangeB {y ps : Nat → Int} (h : IntraOk y ps) {off len : Nat} (h0 : 50 ≤ off) (h1 : off + len ≤ 482) : rangeB (csOf y off len) = true :=
  rangeB_of (fun i hi => by
    rw [csOf_len] at hi
    rw [csOf_at y off len i hi]
    exact h.range (by omega) (by omega))
theorem usual_range {l t : Int} (hl : -1 ≤ l ∧ l ≤ 8) (ht : -1 ≤ t ∧ t ≤ 8) : 0 ≤ usualN l t ∧ usualN l t ≤ 8 := by
  unfold usualN
  split <;> omega
theorem nb_range {ds : List DoneP} {p : Int} (h : Behind ds p) (o : Option Nat) (i : Nat) (hi : i < 16) : -1 ≤ nbMode ds o i ∧ nbMode ds o i ≤ 8 := by
  unfold nbMode
  rcases o with _ | k
  · dsimp only; omega
  · dsimp only
    rcases hd : ds[k]? with _ | d
    · dsimp only; omega
    · dsimp only
      by_cases h0 : d.kind = 0
      · rw [if_pos h0]
        have := h.modes d (List.mem_of_getElem? hd) h0 i hi
        omega
      · rw [if_neg h0]; omega
theorem usualB_range {ds : List DoneP} {p : Int} (h : Behind ds p) {f wide n : Nat} {md : Nat → Int} (hm : ∀ i, i < 16 → 0 ≤ md i ∧ md i ≤ 8) (i : Nat) (hi : i < 16) : 0 ≤ usualB ds f wide n md i ∧ usualB ds f wide n md i ≤ 8 := by
  have hx := bX_lt i
  have hy := bY_lt i hi
  unfold usualB
  apply usual_range
  · unfold leftM
    split
    · exact nb_range h _ _ (blkN_lt 3 (bY i) (by decide) hy)
    · have := hm (blkN (bX i - 1) (bY i)) (blkN_lt _ _ (by omega) hy)
      omega
  · unfold topM
    split
    · exact nb_range h _ _ (blkN_lt (bX i) 3 hx (by decide))
    · have := hm (blkN (bX i) (bY i - 1)) (blkN_lt _ _ hx (by omega))
      omega
theorem IntraOk.qp {y ps : Nat → Int} (h : IntraOk y ps) : 0 ≤ y 49 ∧ y 49 ≤ 51 := by
  have := h.body.2.2.1
  unfold qpOk at this
  split at this
  · exact this
  · omega
/-- Behind a macroblock. -/
theorem Behind.next {ds : List DoneP} {p : Int} {y ps : Nat → Int} (h : Behind ds p) (hy : IntraOk y ps) : Behind (ds ++ [dOf y]) (nextP p y) where
  qp := by
    unfold nextP
    have := hy.qp
    have := h.qp
    split
    · assumption
    · split <;> assumption
  cbp := fun d hd => by
    rcases List.mem_append.1 hd with hd | hd
    · exact h.cbp d hd
    · obtain rfl : d = dOf y := by simpa using hd
      exact ⟨hy.cbp.1, hy.cbp.2.1⟩
  modes := fun d hd h0 i hi => by
    rcases List.mem_append.1 hd with hd | hd
    · exact h.modes d hd h0 i hi
    · obtain rfl : d = dOf y := by simpa using hd
      exact (hy.body.2.2.2.2.1 h0).1 i hi
/-- What its kind does not tell is nothing. -/
theorem IntraOk.rest0 {y ps : Nat → Int} (h : IntraOk y ps) {j : Nat} (hj : j < 482) (h48 : 48 ≤ j) (hn : ¬ restT (y 0) (lumaN y) (chromaN y) j) : y j = 0 := by
  have hco := h.coefs
  unfold restT at hn
  by_cases h9 : j = 49
  · subst h9
    have hq := h.body.2.2.1
    unfold qpOk at hq
    rw [h.cbp.2.2.1] at hq
    by_cases ht : toldB (y 0) ((lumaN y : Int) + 16 * (chromaN y : Int)) = true
    · exact absurd (.inr (.inl ⟨ht, rfl⟩)) hn
    · rw [if_neg ht] at hq; exact hq
  · by_cases h434 : j < 434
    · have hb := hco.2.1 ((j - 50) / 16) (by omega)
      have e : 50 + (j - 50) / 16 * 16 + (j - 50) % 16 = j := by omega
      by_cases hh : hasBlk (lumaN y) (chromaN y) ((j - 50) / 16)
      · have h00 : (j - 50) % 16 = 0 ∧ (y 0 = 1 ∨ 16 ≤ (j - 50) / 16) := by
          unfold hasBlk at hh
          rcases hh with ⟨h1, h2⟩ | ⟨h1, h2⟩
          · have h3 : ¬ (50 ≤ j ∧ j < 306 ∧ lumaN y / 2 ^ ((j - 50) / 16 / 4) % 2 = 1 ∧ (y 0 = 1 → (j - 50) % 16 ≠ 0)) := fun h => hn (.inr (.inr (.inr (.inl h))))
            by_cases hm : (j - 50) % 16 = 0
            · refine ⟨hm, ?_⟩
              by_cases h1' : y 0 = 1
              · exact .inl h1'
              · exact absurd ⟨by omega, by omega, h2, fun h => absurd h h1'⟩ h3
            · exact absurd ⟨by omega, by omega, h2, fun _ => hm⟩ h3
          · have h3 : ¬ (chromaN y = 2 ∧ 306 ≤ j ∧ j < 434 ∧ (j - 50) % 16 ≠ 0) := fun h => hn (.inr (.inr (.inr (.inr (.inr h)))))
            exact ⟨by omega, .inr h1⟩
        have := hb.2.1 h00.2
        rw [← e, h00.1, Nat.add_zero]
        exact this
      · have := hb.1 hh ((j - 50) % 16) (by omega)
        rw [e] at this
        exact this
    · have hd := hco.2.2 ((j - 434) / 16) (by omega)
      have e : 434 + (j - 434) / 16 * 16 + (j - 434) % 16 = j := by omega
      by_cases hh : hasDc y (chromaN y) ((j - 434) / 16)
      · unfold hasDc at hh
        rcases hh with ⟨h1, h2⟩ | ⟨h1, h2⟩
        · exact absurd (.inr (.inr (.inl ⟨h2, by omega, by omega⟩))) hn
        · have h4 : 4 ≤ (j - 434) % 16 := by
            apply Classical.byContradiction
            intro h5
            exact hn (.inr (.inr (.inr (.inr (.inl ⟨h2, by omega⟩)))))
          have := hd.2.1 h1 ((j - 434) % 16 - 4) (by omega)
          rw [show 434 + (j - 434) / 16 * 16 + 4 + ((j - 434) % 16 - 4) = j by omega] at this
          exact this
      · have := hd.1 hh ((j - 434) % 16) (by omega)
        rw [e] at this
        exact this
theorem IntraOk.zero0 {y ps : Nat → Int} (h : IntraOk y ps) (hk : y 0 = 0) : ∀ j, j < 482 → ¬ (j = 0 ∨ (2 ≤ j ∧ j < 18) ∨ j = 19 ∨ restT 0 (lumaN y) (chromaN y) j) → y j = 0 := by
  intro j hj hn
  simp only [not_or] at hn
  have hi := h.body.2.1
  unfold idleOk at hi
  by_cases h48 : 48 ≤ j
  · exact h.rest0 hj h48 (by rw [hk]; exact hn.2.2.2)
  · by_cases h20 : 20 ≤ j
    · have := h.parts (j - 20) (by omega)
      rwa [show 20 + (j - 20) = j by omega] at this
    · obtain rfl | rfl : j = 1 ∨ j = 18 := by omega
      · rcases hi.2.2.2.1 with h1 | h1
        · omega
        · exact h1
      · rcases hi.2.2.1 with h1 | h1
        · omega
        · exact h1
theorem modes_zero {y : Nat → Int} (h : allEq 16 (fun i => y (2 + i)) (fun _ => 0) = true) {j : Nat} (h2 : 2 ≤ j) (h18 : j < 18) : y j = 0 := by
  have := allEq_iff.1 h (j - 2) (by omega)
  rwa [show 2 + (j - 2) = j by omega] at this
theorem IntraOk.zero1 {y ps : Nat → Int} (h : IntraOk y ps) (hk : y 0 = 1) : ∀ j, j < 482 → ¬ (j = 0 ∨ j = 18 ∨ j = 19 ∨ restT 1 (lumaN y) (chromaN y) j) → y j = 0 := by
  intro j hj hn
  simp only [not_or] at hn
  have hi := h.body.2.1
  unfold idleOk at hi
  by_cases h48 : 48 ≤ j
  · exact h.rest0 hj h48 (by rw [hk]; exact hn.2.2.2)
  · by_cases h20 : 20 ≤ j
    · have := h.parts (j - 20) (by omega)
      rwa [show 20 + (j - 20) = j by omega] at this
    · by_cases h1 : j = 1
      · subst h1
        rcases hi.2.2.2.1 with h1 | h1
        · omega
        · exact h1
      · rcases hi.1 with h2 | h2
        · omega
        · exact modes_zero h2 (by omega) (by omega)
theorem IntraOk.zero2 {y ps : Nat → Int} (h : IntraOk y ps) (hk : y 0 = 2) : ∀ j, j < 482 → j ≠ 0 → y j = 0 := by
  intro j hj hn
  have hi := h.body.2.1
  unfold idleOk at hi
  have hp := h.body.2.2.2.2.2.2.1 hk
  have hco := h.coefs
  have hL : lumaN y = 0 ∧ chromaN y = 0 := by have := h.cbp; omega
  by_cases h48 : 48 ≤ j
  · by_cases e48 : j = 48
    · rw [e48]; exact hp.2
    · by_cases e49 : j = 49
      · have hq := h.body.2.2.1
        unfold qpOk at hq
        rw [hp.2, hk, if_neg (by decide)] at hq
        rw [e49]; exact hq
      · by_cases h434 : j < 434
        · have hb := (hco.2.1 ((j - 50) / 16) (by omega)).1 (by unfold hasBlk; rw [hL.1, hL.2]; simp) ((j - 50) % 16) (by omega)
          rwa [show 50 + (j - 50) / 16 * 16 + (j - 50) % 16 = j by omega] at hb
        · have hd := (hco.2.2 ((j - 434) / 16) (by omega)).1 (by unfold hasDc; rw [hL.2]; omega) ((j - 434) % 16) (by omega)
          rwa [show 434 + (j - 434) / 16 * 16 + (j - 434) % 16 = j by omega] at hd
  · by_cases h20 : 20 ≤ j
    · have := h.parts (j - 20) (by omega)
      rwa [show 20 + (j - 20) = j by omega] at this
    · by_cases h1 : j = 1
      · subst h1
        rcases hi.2.2.2.1 with h1 | h1
        · omega
        · exact h1
      · by_cases h18 : j = 18
        · subst h18
          rcases hi.2.2.1 with h1 | h1
          · omega
          · exact h1
        · by_cases h19 : j = 19
          · subst h19
            rcases hi.2.1 with h1 | h1 | h1
            · omega
            · omega
            · exact h1
          · rcases hi.1 with h2 | h2
            · omega
            · exact modes_zero h2 (by omega) (by omega)
end Go.Proofs.YtcppbdlmcbjmeaaGreatDoor

namespace Go.Proofs.YtcppbdlmcbjmeaaGreatDoor
open Go.RowKit

theorem fine_of {l m : List Ask} (h : ∀ a ∈ l, a.fine) (k : ∀ a ∈ m, a.fine) : ∀ a ∈ l ++ m, a.fine := fun a ha => (List.mem_append.1 ha).elim (h a) (k a)
theorem fine_cons {x : Ask} {m : List Ask} (h : x.fine) (k : ∀ a ∈ m, a.fine) : ∀ a ∈ x :: m, a.fine := fun a ha => (List.mem_cons.1 ha).elim (fun e => e ▸ h) (k a)
theorem fine_nil : ∀ a ∈ ([] : List Ask), a.fine := fun a ha => by cases ha
theorem fine_modes {g : Nat → List Ask} (h : ∀ b, b < 16 → ∀ a ∈ g b, a.fine) : ∀ j, j ≤ 16 → ∀ a ∈ modesAsk g j, a.fine
  | 0, _ => fine_nil
  | j + 1, hj => fine_of (h (16 - (j + 1)) (by omega)) (fine_modes h j (by omega))
theorem fine_elem2 {el inc v most : Int} (hs : shortB el = true) (hk : kindOf el = 2) (hm : 1 ≤ most ∧ most ≤ 63) (hv : 0 ≤ v ∧ v ≤ most) (hi : 0 ≤ inc ∧ inc ≤ 7) : (Ask.elem el inc v most).fine :=
  ⟨.inr (.inr (.inl hs)), by unfold bitsE; rw [hk]; simp [mayOf]; omega, hi.1, hi.2⟩
theorem fine_coefs {cs : List Int} {cat inc : Int} (hl : cs.length = 4 ∨ cs.length = 15 ∨ cs.length = 16) (hr : rangeB cs = true) (hc : 0 ≤ cat ∧ cat ≤ 3) (hi : 0 ≤ inc ∧ inc ≤ 1) : (Ask.coefs cs cat inc).fine := by
  show blkFine cs cat inc = true
  unfold blkFine mayB sizeB
  rw [hr]
  simp
  omega
theorem incN_range (ds : List DoneP) (f wide : Nat) : 0 ≤ incN ds f wide ∧ incN ds f wide ≤ 1 := flagN_range _
theorem fine_chroma {y ps : Nat → Int} (h : IntraOk y ps) {inc : Int} (hi : 0 ≤ inc ∧ inc ≤ 1) : ∀ j, j ≤ 8 → ∀ a ∈ chromaAsk inc y j, a.fine
  | 0, _ => fine_nil
  | j + 1, hj => fine_cons (fine_coefs (by rw [csOf_len]; decide) (h.rangeB (by omega) (by omega)) (by decide) hi) (fine_chroma h hi j (by omega))
theorem fine_rest {y ps : Nat → Int} (h : IntraOk y ps) {kind d inc : Int} (hd : -26 ≤ d ∧ d ≤ 25) (hi : 0 ≤ inc ∧ inc ≤ 1) : ∀ a ∈ restAsk kind (lumaN y) (chromaN y) d inc y, a.fine := by
  have hc := h.cbp
  unfold restAsk
  refine fine_cons ?_ (fine_cons (fine_elem2 rfl rfl (by decide) (by omega) (by decide)) (fine_of ?_ (fine_of ?_ (fine_of ?_ (fine_of ?_ ?_)))))
  · split
    · exact fine_elem2 rfl rfl (by decide) (flagN_range _) (by decide)
    · exact fine_elem2 rfl rfl (by decide) (by omega) (by decide)
  · split
    · refine fine_cons ⟨.inr (.inr (.inr rfl)), ?_, by decide, by decide⟩ fine_nil
      unfold bitsE
      rw [show kindOf 13 = 3 from rfl]
      simp [mayOf]
      omega
    · exact fine_nil
  · split
    · exact fine_cons (fine_coefs (by rw [csOf_len]; decide) (h.rangeB (by omega) (by omega)) (by decide) hi) fine_nil
    · exact fine_nil
  · refine fine_modes (fun b hb => ?_) 16 (Nat.le_refl _)
    unfold lumaAsk
    split
    · exact fine_nil
    · split
      · exact fine_cons (fine_coefs (by rw [csOf_len]; decide) (h.rangeB (by omega) (by omega)) (by decide) hi) fine_nil
      · exact fine_cons (fine_coefs (by rw [csOf_len]; decide) (h.rangeB (by omega) (by omega)) (by decide) hi) fine_nil
  · split
    · exact fine_cons (fine_coefs (by rw [csOf_len]; decide) (h.rangeB (by omega) (by omega)) (by decide) hi) (fine_cons (fine_coefs (by rw [csOf_len]; decide) (h.rangeB (by omega) (by omega)) (by decide) hi) fine_nil)
    · exact fine_nil
  · split
    · exact fine_chroma h hi 8 (Nat.le_refl _)
    · exact fine_nil
theorem fine_mode {u own : Int} (hu : 0 ≤ u ∧ u ≤ 8) (ho : 0 ≤ own ∧ own ≤ 8) : ∀ a ∈ modeAsk u own, a.fine := by
  unfold modeAsk
  refine fine_cons ⟨.inr (.inl rfl), ?_, by decide, by decide⟩ ?_
  · unfold bitsE
    rw [show kindOf 2 = 1 from rfl]
    cases (own == u) <;> rfl
  · split
    · exact fine_nil
    · rename_i hne
      refine fine_cons (fine_elem2 rfl rfl (by decide) ?_ (by decide)) fine_nil
      by_cases hlt : u < own
      · rw [decide_eq_true hlt]
        show 0 ≤ own - 1 ∧ own - 1 ≤ 7
        omega
      · rw [decide_eq_false hlt]
        show 0 ≤ own - 0 ∧ own - 0 ≤ 7
        omega
/-- All that is asked of an intra macroblock may be asked. -/
theorem fine_mb {y ps : Nat → Int} {ds : List DoneP} {p : Int} (h : IntraOk y ps) (hb : Behind ds p) (f wide : Nat) : ∀ a ∈ mbAsk f wide ds p y ps, a.fine := by
  have hk := h.kind
  have hcn := countN_range withinB ds f wide ds.length
  have hd := dqp_is hb.qp h.qp
  unfold mbAsk
  refine fine_cons (fine_elem2 rfl rfl (by decide) (by omega) (by omega)) ?_
  split
  · intro a ha
    obtain ⟨v, hv, rfl⟩ := List.mem_map.1 ha
    obtain ⟨i, hi, rfl⟩ := List.mem_map.1 hv
    exact h.pcm i (by simpa using hi)
  · split
    · rename_i h1
      have hw := h.body.2.2.2.2.2.1 h1
      exact fine_cons (fine_elem2 rfl rfl (by decide) hw.1 (by decide)) (fine_cons (fine_elem2 rfl rfl (by decide) hw.2 (by decide)) (fine_rest h ⟨hd.1, hd.2.1⟩ (incN_range ds f wide)))
    · have h0 : y 0 = 0 := by omega
      have hw := h.body.2.2.2.2.1 h0
      exact fine_of (fine_modes (fun b hb2 => fine_mode (usualB_range hb hw.1 b hb2) (hw.1 b hb2)) 16 (Nat.le_refl _)) (fine_cons (fine_elem2 rfl rfl (by decide) hw.2 (by decide)) (fine_rest h ⟨hd.1, hd.2.1⟩ (incN_range ds f wide)))
theorem upd_id {S : Nat → Value} {i : Nat} {v : Value} (h : S i = v) : upd S i v = S := by
  funext j
  unfold upd
  split
  · rename_i e; rw [e, h]
  · rfl
/-- The walk over any macroblock of a slice of type I. -/
theorem wk_run_I {c : Cod} {F0 F : List Nat} {w0 w : World} {kb sb mb n f wide : Nat} {S X : Nat → Value} {ds : List DoneP} {r : List Ask} {x y ps : Nat → Int} {p : Int} (hc : c.Ok)
    (h : Scene c F0 w0 w kb sb mb S X n (donesA ds) F (mbAsk f wide ds p y ps ++ r)) (h0 : S 0 = .int .i64 f) (h2 : S 2 = .int .i64 2) (h21 : S 21 = .int .i64 wide) (h22 : S 22 = .int .i64 p) (bf : f ≤ 1000000) (bw : 1 ≤ wide ∧ wide ≤ 1000000) (bn : n ≤ 1000000) (hds : ds.length = n)
    (hb : Behind ds p) (hy : IntraOk y ps) (hg : MbGiven c.wr X x y)
    (hX : y 0 = 2 → (c.wr = false ∧ X 482 = .slice none 0 0) ∨ ∃ (pb cap : Nat) (q : Nat → Int), X 482 = .slice (some ⟨pb, 0, none⟩) 384 cap ∧ PcmIs w pb q ∧ pb ∉ F ∧ (c.wr = true → ∀ i, i < 384 → q i = ps i)) :
    Calls Tryz.prog 37 #[.pointer (some ⟨kb, 0, none⟩)] w fun e w' => e = .returned (.tuple #[]) ∧ ∃ (v' : Value) (F' : List Nat) (Xf : Nat → Value) (G' : List Nat),
      Ran c F0 w0 w' sb mb (upd (upd S 22 (.int .i64 (nextP p y))) 23 v') Xf (n + 1) (donesA (ds ++ [dOf y])) F' r G' ∧ (∀ j, j < 482 → Xf j = .int .i64 (y j)) ∧ (y 0 ≠ 2 → Xf 482 = X 482 ∧ G' = (S 23).ownBlock.toList) ∧
      (y 0 = 2 → ∃ pb cap, Xf 482 = .slice (some ⟨pb, 0, none⟩) 384 cap ∧ PcmIs w' pb ps ∧ pb ∉ F' ∧ (w0.heap.size ≤ pb ∨ ∃ cap', X 482 = .slice (some ⟨pb, 0, none⟩) 384 cap') ∧ G' = pb :: (S 23).ownBlock.toList) := by
  have hd := dqp_is hb.qp hy.qp
  have hcb := hy.cbp
  have hlt : ∀ j, j < 482 → laidY X y j = .int .i64 (y j) := fun j hj => laidY_at hj
  have h482 : laidY X y 482 = X 482 := by unfold laidY; rw [if_neg (by decide)]
  subst hds
  rcases hy.kind with hk | hk | hk
  · have hw := hy.body.2.2.2.2.1 hk
    have e : mbAsk f wide ds p y ps ++ r = .elem 1 (countN withinB ds f wide ds.length) 0 2 :: (modesAsk (fun b => modeAsk (usualB ds f wide ds.length (fun i => y (2 + i)) b) (y (2 + b))) 16 ++ (.elem 5 0 (y 19) 3 :: (restAsk 0 (lumaN y) (chromaN y) (dqp p (y 49)) (incN ds f wide) y ++ r))) := by
      unfold mbAsk
      rw [if_neg (by omega), if_neg (by omega), hk]
      simp
    rw [e] at h
    by_cases ht : 0 < lumaN y + 16 * chromaN y
    · refine (wk_run2_0t hc h h0 h2 h21 bf bw bn rfl hg hk h22 hcb.2.2.2.1 hcb.2.2.2.2 hcb.2.2.1 rfl hb.cbp hb.qp ⟨hd.1, hd.2.1⟩ hd.2.2 hy.qp (hy.zero0 hk) hw.1 (fun i hi => usualB_range hb hw.1 i hi) ht).mono ?_
      rintro e w' ⟨rfl, v', F', h1⟩
      have hn : nextP p y = y 49 := by
        unfold nextP
        rw [if_neg (by omega), hcb.2.2.1, if_pos ((toldB_pos (by omega)).2 ht)]
      rw [hn]
      exact ⟨rfl, v', F', _, _, h1, hlt, fun _ => ⟨h482, rfl⟩, fun h => by omega⟩
    · refine (wk_run2_0n hc h h0 h2 h21 bf bw bn rfl hg hk h22 hcb.2.2.2.1 hcb.2.2.2.2 hcb.2.2.1 rfl hb.cbp hb.qp ⟨hd.1, hd.2.1⟩ hd.2.2 hy.qp (hy.zero0 hk) hw.1 (fun i hi => usualB_range hb hw.1 i hi) ht).mono ?_
      rintro e w' ⟨rfl, v', F', h1⟩
      have hn : nextP p y = p := by
        unfold nextP
        rw [if_neg (by omega), hcb.2.2.1, if_neg (fun h => ht ((toldB_pos (by omega)).1 h))]
      rw [hn, upd_id h22]
      exact ⟨rfl, v', F', _, _, h1, hlt, fun _ => ⟨h482, rfl⟩, fun h => by omega⟩
  · have e : mbAsk f wide ds p y ps ++ r = .elem 1 (countN withinB ds f wide ds.length) 1 2 :: (.elem 4 0 (y 18) 3 :: .elem 5 0 (y 19) 3 :: (restAsk 1 (lumaN y) (chromaN y) (dqp p (y 49)) (incN ds f wide) y ++ r)) := by
      unfold mbAsk
      rw [if_neg (by omega), if_pos hk, hk]
      simp
    rw [e] at h
    refine (wk_run2_1 hc h h0 h2 h21 bf bw bn rfl hg hk h22 (hy.coefs.1 hk) hcb.2.2.2.2 hcb.2.2.1 rfl hb.cbp hb.qp ⟨hd.1, hd.2.1⟩ hd.2.2 hy.qp (hy.zero1 hk)).mono ?_
    rintro e w' ⟨rfl, v', F', h1⟩
    have hn : nextP p y = y 49 := by
      unfold nextP
      rw [if_neg (by omega), if_pos (by unfold toldB; rw [hk]; rfl)]
    rw [hn]
    exact ⟨rfl, v', F', _, _, h1, hlt, fun _ => ⟨h482, rfl⟩, fun h => by omega⟩
  · have e : mbAsk f wide ds p y ps ++ r = .elem 1 (countN withinB ds f wide ds.length) 2 2 :: (pcmAsk ((List.range 384).map ps) ++ r) := by
      unfold mbAsk
      rw [if_pos hk, hk]
      simp
    rw [e] at h
    refine (wk_run2_2 hc h h0 h2 h21 bf bw bn rfl hg hk hy.pcm (hy.zero2 hk) (hX hk)).mono ?_
    rintro e w' ⟨rfl, v', F', pb, cap, h1, h3, h4, h5⟩
    have hn : nextP p y = p := by unfold nextP; rw [if_pos hk]
    rw [hn, upd_id h22]
    exact ⟨rfl, v', F', _, _, h1, fun j hj => by rw [upd_ne _ _ (by omega)]; exact hlt j hj, fun h => absurd hk h, fun _ => ⟨pb, cap, upd_same _ _ _, h3, h4, h5, rfl⟩⟩
end Go.Proofs.YtcppbdlmcbjmeaaGreatDoor

namespace Go.Proofs.YtcppbdlmcbjmeaaGreatDoor
open Go.RowKit

/-- A struct or an array is built, in one step. -/
theorem wpList_build {P : Program} {ops : Array Oper} {rest : List Oper} {o : Oper} {a : Act} {w : World} {Q : Exit → Act → World → Prop} (hgd : o.guard = none) (t : TypeId) (parts : Array (Nat × Operand)) (ho : o.op = .build t parts) (cells : Array Value)
    (hb : P.built t (parts.map fun (i, x) => (i, a.eval x)).toList = some cells) (h : wpList P ops Q rest (a.put o.dst (.agg cells)) w) : wpList P ops Q (o :: rest) a w := by
  refine wpList_plain hgd fun K hK => ?_
  unfold Oper.wp execOp
  simp only [ho, Sem.run_bind, run_build w t _ cells hb, Result.andThen_ok]
  exact hK _ _ h
/-- A header's cells. -/
def hdL (hd : Nat → Value) : List Value := [hd 0, hd 1, hd 2, hd 3, hd 4, hd 5, hd 6, hd 7, hd 8, hd 9, hd 10, hd 11, hd 12, hd 13, hd 14, hd 15, hd 16, hd 17, hd 18, hd 19, hd 20]
theorem hdL_at (hd : Nat → Value) (i : Nat) (h : i < 21) : (hdL hd)[i]? = some (hd i) := by
  have e : hdL hd = (List.range 21).map hd := rfl
  rw [e]
  simp [h]
/-- A slice's state at first. -/
def stS (hd : Nat → Value) (wide qp : Int) : Nat → Value := fun j => if j < 21 then hd j else if j = 21 then .int .i64 wide else if j = 22 then .int .i64 qp else if j = 23 then .slice none 0 0 else .int .i64 0
structure HeadIs (hd : Nat → Value) (f cnt t a0 a1 qp : Int) : Prop where
  h0 : hd 0 = .int .i64 f
  h1 : hd 1 = .int .i64 cnt
  h2 : hd 2 = .int .i64 t
  h7 : hd 7 = .int .i64 a0
  h8 : hd 8 = .int .i64 a1
  h17 : hd 17 = .int .i64 qp
theorem built_state (hd : Nat → Value) (wide qp : Int) : Tryz.prog.built 106 [(0, .agg (hdL hd).toArray), (1, .int .i64 wide), (2, .int .i64 qp)] = some (fnA 75 (stS hd wide qp)) := by kernel_rfl
set_option maxRecDepth 100000 in
set_option maxHeartbeats 3200000 in
theorem sx_begin {hd : Nat → Value} {f cnt t a0 a1 qp wide : Int} {w : World} (hh : HeadIs hd f cnt t a0 a1 qp) (hw : 1 ≤ wide ∧ wide ≤ 8) (hf : 0 ≤ f) (hc : 1 ≤ cnt) (ht : 0 ≤ t ∧ t ≤ 2) (hq : 0 ≤ qp ∧ qp ≤ 51) (ha0 : 0 ≤ a0 ∧ a0 ≤ 8) (ha1 : 0 ≤ a1 ∧ a1 ≤ 8) :
    Calls Tryz.prog 32 #[.agg (hdL hd).toArray, .int .i64 wide] w fun e w' => ∃ sb, e = .returned (.tuple #[.pointer (some ⟨sb, 0, none⟩), .int .i64 0]) ∧ BlkIn w' sb 75 106 (stS hd wide qp) ∧ w.heap.size ≤ sb ∧ Only [] w w' := by
  obtain ⟨HL, hHL⟩ : ∃ HL, HL = hdL hd := ⟨_, rfl⟩
  obtain ⟨ST, hST⟩ : ∃ ST, ST = fnA 75 (stS hd wide qp) := ⟨_, rfl⟩
  have hbt := built_state hd wide qp
  rw [← hHL, ← hST] at hbt
  have hat : ∀ i, i < 21 → (w.alloc (.cells HL.toArray 26)).cell? ⟨w.heap.size, i, none⟩ = some (hd i) := fun i hi => by
    rw [cells_of (heap_alloc_at w _), hHL]
    simpa using hdL_at hd i hi
  have hr : (w.alloc (.cells HL.toArray 26)).rangeAt w.heap.size 0 HL := fun j v hj => by
    rw [Nat.zero_add, cells_of (heap_alloc_at w _)]
    simpa using hj
  have hlen : (Tryz.prog.info? 26).map (·.size) = some HL.length := by rw [hHL]; show _ = some 21; kernel_rfl
  have c0 := hat 0 (by decide)
  have c1 := hat 1 (by decide)
  have c2 := hat 2 (by decide)
  have c7 := hat 7 (by decide)
  have c8 := hat 8 (by decide)
  have c17 := hat 17 (by decide)
  rw [hh.h0] at c0
  rw [hh.h1] at c1
  rw [hh.h2] at c2
  rw [hh.h7] at c7
  rw [hh.h8] at c8
  rw [hh.h17] at c17
  have O1 : Hid (Only [] w (w.alloc (.cells HL.toArray 26))) := Lib.hid ((Only.refl [] w).alloc _)
  have Hbt := Lib.hid hbt
  have HR := Lib.hid hr
  have HLen := Lib.hid hlen
  have HST := Lib.hid hST
  have hs1 : w.heap.size < (w.alloc (.cells HL.toArray 26)).heap.size := by simp
  rw [← hHL]
  clear hh hHL hST hbt hat hr hlen
  go_enter Tryz.func32, Tryz.ntmps32
  go_wp2_with fail
  refine (sx_in wide _ _ _).mono ?_
  rintro e w' ⟨rfl, rfl⟩
  generalize w.alloc (.cells HL.toArray 26) = w1 at *
  rw [decide_eq_true hw.1, decide_eq_true hw.2, Bool.and_true]
  go_wp2_with fail
  refine (sx_in t _ _ _).mono ?_
  rintro e w' ⟨rfl, rfl⟩
  rw [decide_eq_true ht.1, decide_eq_true ht.2, Bool.and_true]
  go_wp2_with fail
  refine (sx_in qp _ _ _).mono ?_
  rintro e w' ⟨rfl, rfl⟩
  rw [decide_eq_true hq.1, decide_eq_true hq.2, Bool.and_true]
  go_wp2_with fail
  refine (sx_in a0 _ _ _).mono ?_
  rintro e w' ⟨rfl, rfl⟩
  rw [decide_eq_true ha0.1, decide_eq_true ha0.2, Bool.and_true]
  go_wp2_with fail
  refine (sx_in a1 _ _ _).mono ?_
  rintro e w' ⟨rfl, rfl⟩
  rw [decide_eq_true ha1.1, decide_eq_true ha1.2, Bool.and_true]
  go_wp2_with (first | (with_reducible refine wpList_load_mid rfl 26 _ rfl w.heap.size 0 rfl HL _ HR.out Tryz.underlying26 rfl HLen.out ?_) | (refine wpList_build rfl _ _ rfl ST (Eq.trans (by kernel_rfl) Hbt.out) ?_))
  go_ret2
  refine ⟨w1.heap.size, rfl, ?_, by omega, O1.out.alloc _⟩
  unfold BlkIn
  rw [heap_alloc_at, HST.out]
end Go.Proofs.YtcppbdlmcbjmeaaGreatDoor
