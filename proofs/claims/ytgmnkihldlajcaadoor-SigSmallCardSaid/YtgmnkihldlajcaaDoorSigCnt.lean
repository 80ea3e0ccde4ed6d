/-
  Plain Lean: how many bits blocks of noughts take. No program is named.
-/
import Derived.Test.YtgmnkihldlajcaaDoorLikely
import Derived.Test.YtgmnkihldlajcaaDoorSigFit
namespace Go.Proofs.YtgmnkihldlajcaaDoor

/-- The encoder with one context of many, its bits counted alone. -/
def Enc.cntAt (e : Enc) (c : Nat) : Cnt := ⟨e.st.getD c 0, e.low, e.wid, e.outs, e.begun, e.bits.length⟩
theorem cntAt_put (c : Nat) (e : Enc) (b : Int) : (e.put b).cntAt c = (e.cntAt c).put := by
  unfold Enc.cntAt Enc.put Cnt.put
  cases e.begun <;> simp <;> omega
theorem cntAt_shift (c : Nat) (e : Enc) : e.shift.cntAt c = (e.cntAt c).shift := by
  unfold Enc.shift Cnt.shift
  have h1 : (e.cntAt c).low = e.low := rfl
  rw [h1]
  by_cases c1 : e.low < 256
  · rw [if_pos c1, if_pos c1, ← cntAt_put c e 0]; rfl
  · rw [if_neg c1, if_neg c1]
    by_cases c2 : 512 ≤ e.low
    · rw [if_pos c2, if_pos c2]
      have := cntAt_put c { e with low := e.low - 512 } 1
      rw [show ({ e.cntAt c with low := e.low - 512 } : Cnt) = Enc.cntAt { e with low := e.low - 512 } c from rfl, ← this]
      rfl
    · rw [if_neg c2, if_neg c2]; rfl
theorem cntAt_norm (c k : Nat) : ∀ e : Enc, (Enc.norm k e).cntAt c = Cnt.norm k (e.cntAt c) := by
  induction k with
  | zero => intro e; rfl
  | succ k ih =>
    intro e
    show (if e.wid < 256 then Enc.norm k e.shift else e).cntAt c = (if (e.cntAt c).wid < 256 then Cnt.norm k (e.cntAt c).shift else e.cntAt c)
    have h1 : (e.cntAt c).wid = e.wid := rfl
    rw [h1, ← cntAt_shift]
    by_cases c : e.wid < 256
    · rw [if_pos c, if_pos c, ih]
    · rw [if_neg c, if_neg c]
theorem cntAt_bin (c : Nat) (e : Enc) (b : Int) (hl : c < e.st.length) (h : e.Live) (hb : b = 0 ∨ b = 1) : (e.bin c b).cntAt c = (e.cntAt c).bin b := by
  rw [e.bin_is c b h hl hb, cntAt_norm]
  unfold Cnt.bin
  dsimp only
  have e1 : (e.cntAt c).s = e.st.getD c 0 := rfl
  have e2 : (e.cntAt c).wid = e.wid := rfl
  rw [e1, e2]
  congr 1
  unfold Enc.narrow
  dsimp only
  by_cases q : b = e.st.getD c 0 % 2
  · rw [if_pos q, if_pos q]
    unfold Enc.cntAt
    simp only
    rw [getD_set, if_pos ⟨rfl, hl⟩]
  · rw [if_neg q, if_neg q]
    unfold Enc.cntAt
    simp only
    rw [getD_set, if_pos ⟨rfl, hl⟩]
theorem cntAt_last (c : Nat) (e : Enc) (h : e.Live) : (e.term 1).bits.length = (e.cntAt c).last := by
  rw [e.term_yes h]
  unfold Cnt.last Cnt.close
  have h1 : ({ e.cntAt c with low := (e.cntAt c).low + ((e.cntAt c).wid - 2), wid := 2 } : Cnt) = (e.last 1).cntAt c := rfl
  rw [h1, ← cntAt_norm]
  generalize Enc.norm 8 (e.last 1) = f
  rw [← cntAt_put c f (f.low / 512 % 2)]
  unfold Enc.close
  show ((f.put (f.low / 512 % 2)).bits ++ [f.low / 256 % 2] ++ [1]).length = (f.put (f.low / 512 % 2)).bits.length + 2
  simp
/-- Behind k noughts of the context c. -/
def smE (c : Nat) : Nat → Enc
  | 0 => Enc.new (initL 26)
  | k + 1 => (smE c k).bin c 0
theorem smE_live (c : Nat) (hc : c < 256) (k : Nat) : (smE c k).Live ∧ (smE c k).st.length = 256 ∧ (smE c k).cost ≤ 8 * k := by
  induction k with
  | zero => exact ⟨Enc.live_new _, by simp [smE, Enc.new, beginOf, initL], by simp [smE, Enc.new, Enc.cost]⟩
  | succ k ih =>
    have h := (smE c k).live_bin c 0 ih.1 (by rw [ih.2.1]; exact hc) (.inl rfl)
    have h2 := ((smE c k).good_bin c 0 ih.1.good).2
    exact ⟨h.1, h.2.1.trans ih.2.1, by show ((smE c k).bin c 0).cost ≤ _; omega⟩
def smOk : Nat → Nat → Cnt → Bool
  | 0, _, _ => true
  | m + 1, k, a => decide ((a.last + 7) / 8 < k / 16 + 16) && smOk m (k + 1) (a.bin 0)
def smGo : Nat → Nat → Cnt → Bool
  | 0, k, a => smOk 128 k a
  | m + 1, k, a => smGo m (k + 1) (a.bin 0)
set_option maxRecDepth 100000 in
theorem sm_all : smGo 200 0 ((Enc.new (initL 26)).cntAt 112) = true ∧ smGo 200 0 ((Enc.new (initL 26)).cntAt 114) = true ∧ smGo 200 0 ((Enc.new (initL 26)).cntAt 116) = true ∧ smGo 200 0 ((Enc.new (initL 26)).cntAt 118) = true := by
  refine ⟨?_, ?_, ?_, ?_⟩ <;> decide +kernel
theorem smOk_at (c : Nat) (hc : c < 256) : ∀ (m k : Nat), smOk m k ((smE c k).cntAt c) = true → ∀ j, j < m → (((smE c (k + j)).term 1).bits.length + 7) / 8 < (k + j) / 16 + 16 := by
  intro m
  induction m with
  | zero => intro k _ j hj; omega
  | succ m ih =>
    intro k h j hj
    have h1 : (decide ((((smE c k).cntAt c).last + 7) / 8 < k / 16 + 16) && smOk m (k + 1) (((smE c k).cntAt c).bin 0)) = true := h
    simp only [Bool.and_eq_true, decide_eq_true_eq] at h1
    obtain ⟨g1, g3⟩ := h1
    cases j with
    | zero =>
      show (((smE c k).term 1).bits.length + 7) / 8 < k / 16 + 16
      rw [cntAt_last c _ (smE_live c hc k).1]
      exact g1
    | succ j =>
      rw [← cntAt_bin c (smE c k) 0 (by rw [(smE_live c hc k).2.1]; exact hc) (smE_live c hc k).1 (.inl rfl)] at g3
      have := ih (k + 1) g3 j (by omega)
      rw [show k + 1 + j = k + (j + 1) by omega] at this
      exact this
theorem smGo_at (c : Nat) (hc : c < 256) : ∀ (m k : Nat), smGo m k ((smE c k).cntAt c) = true → smOk 128 (k + m) ((smE c (k + m)).cntAt c) = true := by
  intro m
  induction m with
  | zero => intro k h; exact h
  | succ m ih =>
    intro k h
    have h1 : smGo m (k + 1) (((smE c k).cntAt c).bin 0) = true := h
    rw [← cntAt_bin c (smE c k) 0 (by rw [(smE_live c hc k).2.1]; exact hc) (smE_live c hc k).1 (.inl rfl)] at h1
    have := ih (k + 1) h1
    rw [show k + 1 + m = k + (m + 1) by omega] at this
    exact this
/-- The context of a category's flag. -/
def smC (cat : Int) : Nat := (112 + 2 * cat).toNat
theorem sm_bits (cat : Int) (h0 : 0 ≤ cat) (h1 : cat ≤ 3) (k : Nat) (h2 : 200 ≤ k) (h3 : k < 328) : (((smE (smC cat) k).term 1).bits.length + 7) / 8 < k / 16 + 16 := by
  obtain ⟨q0, q1, q2, q3⟩ := sm_all
  have key : smGo 200 0 ((smE (smC cat) 0).cntAt (smC cat)) = true := by
    rcases (show cat = 0 ∨ cat = 1 ∨ cat = 2 ∨ cat = 3 by omega) with rfl | rfl | rfl | rfl
    · exact q0
    · exact q1
    · exact q2
    · exact q3
  have hc : smC cat < 256 := by unfold smC; omega
  have h := smGo_at (smC cat) hc 200 0 key
  have := smOk_at (smC cat) hc 128 (0 + 200) h (k - 200) (by omega)
  rw [show 0 + 200 + (k - 200) = k by omega] at this
  exact this
theorem sm_deeds (cat : Int) (h0 : 0 ≤ cat) (h1 : cat ≤ 3) : sigDeeds (List.replicate 16 0) cat 0 = [.bin (smC cat) 0] := by
  rcases (show cat = 0 ∨ cat = 1 ∨ cat = 2 ∨ cat = 3 by omega) with rfl | rfl | rfl | rfl <;> rfl
theorem sm_step (cat : Int) (h0 : 0 ≤ cat) (h1 : cat ≤ 3) (k : Nat) : (smE (smC cat) k).run (sigDeeds (List.replicate 16 0) cat 0) = smE (smC cat) (k + 1) := by
  rw [sm_deeds cat h0 h1]
  rfl
end Go.Proofs.YtgmnkihldlajcaaDoor
