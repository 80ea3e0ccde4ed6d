/-
  Plain Lean: how many bits likely and unlikely bins take. No program is named.
-/
import Derived.Test.YtgmnkihldlajcaaDoorEnc
namespace Go.Proofs.YtgmnkihldlajcaaDoor

/-- The encoder with one context, its bits counted alone. -/
structure Cnt where
  s : Int
  low : Int
  wid : Int
  outs : Nat
  begun : Bool
  n : Nat
def Cnt.put (e : Cnt) : Cnt := { e with begun := true, outs := 0, n := (if e.begun then e.n + 1 else e.n) + e.outs }
def Cnt.shift (e : Cnt) : Cnt :=
  let f := if e.low < 256 then e.put else if 512 ≤ e.low then { e with low := e.low - 512 }.put else { e with low := e.low - 256, outs := e.outs + 1 }
  { f with wid := 2 * f.wid, low := 2 * f.low }
def Cnt.norm : Nat → Cnt → Cnt
  | 0, e => e
  | k + 1, e => if e.wid < 256 then Cnt.norm k e.shift else e
def Cnt.bin (e : Cnt) (b : Int) : Cnt :=
  let less := widthOf e.s (e.wid / 64 % 4)
  Cnt.norm 8 (if b = e.s % 2 then { e with wid := e.wid - less, s := nextOf e.s true } else { e with low := e.low + (e.wid - less), wid := less, s := nextOf e.s false })
def Cnt.close (e : Cnt) : Nat := e.put.n + 2
def Cnt.last (e : Cnt) : Nat := (Cnt.norm 8 { e with low := e.low + (e.wid - 2), wid := 2 }).close
def Enc.cnt (e : Enc) : Cnt := ⟨e.st.getD 0 0, e.low, e.wid, e.outs, e.begun, e.bits.length⟩
theorem cnt_put (e : Enc) (b : Int) : (e.put b).cnt = e.cnt.put := by
  unfold Enc.cnt Enc.put Cnt.put
  cases e.begun <;> simp <;> omega
theorem cnt_shift (e : Enc) : e.shift.cnt = e.cnt.shift := by
  unfold Enc.shift Cnt.shift
  have h1 : e.cnt.low = e.low := rfl
  rw [h1]
  by_cases c1 : e.low < 256
  · rw [if_pos c1, if_pos c1, ← cnt_put e 0]; rfl
  · rw [if_neg c1, if_neg c1]
    by_cases c2 : 512 ≤ e.low
    · rw [if_pos c2, if_pos c2]
      have := cnt_put { e with low := e.low - 512 } 1
      rw [show ({ e.cnt with low := e.low - 512 } : Cnt) = Enc.cnt { e with low := e.low - 512 } from rfl, ← this]
      rfl
    · rw [if_neg c2, if_neg c2]; rfl
theorem cnt_norm (k : Nat) : ∀ e : Enc, (Enc.norm k e).cnt = Cnt.norm k e.cnt := by
  induction k with
  | zero => intro e; rfl
  | succ k ih =>
    intro e
    show (if e.wid < 256 then Enc.norm k e.shift else e).cnt = (if e.cnt.wid < 256 then Cnt.norm k e.cnt.shift else e.cnt)
    have h1 : e.cnt.wid = e.wid := rfl
    rw [h1, ← cnt_shift]
    by_cases c : e.wid < 256
    · rw [if_pos c, if_pos c, ih]
    · rw [if_neg c, if_neg c]
theorem cnt_bin (e : Enc) (b : Int) (hl : e.st.length = 1) (h : e.Live) (hb : b = 0 ∨ b = 1) : (e.bin 0 b).cnt = e.cnt.bin b ∧ (e.bin 0 b).st.length = 1 ∧ (e.bin 0 b).Live := by
  have h1 : e.bin 0 b = Enc.norm 8 (e.narrow 0 b) := e.bin_is 0 b h (by omega) hb
  have h2 := e.live_bin 0 b h (by omega) hb
  refine ⟨?_, h2.2.1.trans hl, h2.1⟩
  rw [h1, cnt_norm]
  unfold Cnt.bin
  dsimp only
  have e1 : (e.cnt.s) = e.st.getD 0 0 := rfl
  have e2 : e.cnt.wid = e.wid := rfl
  rw [e1, e2]
  congr 1
  unfold Enc.narrow
  dsimp only
  obtain ⟨s, hs⟩ : ∃ s, e.st = [s] := by
    match hst : e.st, hl with
    | [s], _ => exact ⟨s, rfl⟩
  by_cases c : b = e.st.getD 0 0 % 2
  · rw [if_pos c, if_pos c, hs]; rfl
  · rw [if_neg c, if_neg c, hs]; rfl
theorem cnt_last (e : Enc) (h : e.Live) : (e.term 1).bits.length = e.cnt.last := by
  rw [e.term_yes h]
  unfold Cnt.last Cnt.close
  have h1 : ({ e.cnt with low := e.cnt.low + (e.cnt.wid - 2), wid := 2 } : Cnt) = (e.last 1).cnt := rfl
  rw [h1, ← cnt_norm]
  generalize Enc.norm 8 (e.last 1) = f
  rw [← cnt_put f (f.low / 512 % 2)]
  unfold Enc.close
  show ((f.put (f.low / 512 % 2)).bits ++ [f.low / 256 % 2] ++ [1]).length = (f.put (f.low / 512 % 2)).bits.length + 2
  simp

/-- Both encoders behind k bins. -/
def likA : Nat → Enc
  | 0 => Enc.new [124]
  | k + 1 => (likA k).bin 0 0
def likB : Nat → Enc
  | 0 => Enc.new [0]
  | k + 1 => (likB k).bin 0 ((k % 2 : Nat) : Int)
theorem likA_live (k : Nat) : (likA k).Live ∧ (likA k).st.length = 1 := by
  induction k with
  | zero => exact ⟨Enc.live_new _, rfl⟩
  | succ k ih => have := cnt_bin (likA k) 0 ih.2 ih.1 (.inl rfl); exact ⟨this.2.2, this.2.1⟩
theorem likB_live (k : Nat) : (likB k).Live ∧ (likB k).st.length = 1 := by
  induction k with
  | zero => exact ⟨Enc.live_new _, rfl⟩
  | succ k ih => have := cnt_bin (likB k) ((k % 2 : Nat) : Int) ih.2 ih.1 (by omega); exact ⟨this.2.2, this.2.1⟩
/-- What is asked at each length from k on, m lengths more. -/
def likOk : Nat → Nat → Cnt → Cnt → Bool
  | 0, _, _, _ => true
  | m + 1, k, a, b => decide ((a.last + 7) / 8 ≤ k / 64 + 3) && decide (k / 10 ≤ (b.last + 7) / 8) && likOk m (k + 1) (a.bin 0) (b.bin ((k % 2 : Nat) : Int))
def likGo : Nat → Nat → Cnt → Cnt → Bool
  | 0, k, a, b => likOk 256 k a b
  | m + 1, k, a, b => likGo m (k + 1) (a.bin 0) (b.bin ((k % 2 : Nat) : Int))
set_option maxRecDepth 100000 in
theorem lik_all : likGo 200 0 ⟨124, 0, 510, 0, false, 0⟩ ⟨0, 0, 510, 0, false, 0⟩ = true := by decide +kernel
theorem likOk_at : ∀ (m k : Nat), likOk m k (likA k).cnt (likB k).cnt = true → ∀ j, j < m → (((likA (k + j)).term 1).bits.length + 7) / 8 ≤ (k + j) / 64 + 3 ∧ (k + j) / 10 ≤ (((likB (k + j)).term 1).bits.length + 7) / 8 := by
  intro m
  induction m with
  | zero => intro k _ j hj; omega
  | succ m ih =>
    intro k h j hj
    have h1 : (decide (((likA k).cnt.last + 7) / 8 ≤ k / 64 + 3) && decide (k / 10 ≤ ((likB k).cnt.last + 7) / 8) && likOk m (k + 1) ((likA k).cnt.bin 0) ((likB k).cnt.bin ((k % 2 : Nat) : Int))) = true := h
    simp only [Bool.and_eq_true, decide_eq_true_eq] at h1
    obtain ⟨⟨g1, g2⟩, g3⟩ := h1
    cases j with
    | zero =>
      show (((likA k).term 1).bits.length + 7) / 8 ≤ k / 64 + 3 ∧ k / 10 ≤ (((likB k).term 1).bits.length + 7) / 8
      rw [cnt_last _ (likA_live k).1, cnt_last _ (likB_live k).1]
      exact ⟨g1, g2⟩
    | succ j =>
      rw [← (cnt_bin (likA k) 0 (likA_live k).2 (likA_live k).1 (.inl rfl)).1, ← (cnt_bin (likB k) ((k % 2 : Nat) : Int) (likB_live k).2 (likB_live k).1 (by omega)).1] at g3
      have := ih (k + 1) g3 j (by omega)
      rw [show k + 1 + j = k + (j + 1) by omega] at this
      exact this
theorem likGo_at : ∀ (m k : Nat), likGo m k (likA k).cnt (likB k).cnt = true → likOk 256 (k + m) (likA (k + m)).cnt (likB (k + m)).cnt = true := by
  intro m
  induction m with
  | zero => intro k h; exact h
  | succ m ih =>
    intro k h
    have h1 : likGo m (k + 1) ((likA k).cnt.bin 0) ((likB k).cnt.bin ((k % 2 : Nat) : Int)) = true := h
    rw [← (cnt_bin (likA k) 0 (likA_live k).2 (likA_live k).1 (.inl rfl)).1, ← (cnt_bin (likB k) ((k % 2 : Nat) : Int) (likB_live k).2 (likB_live k).1 (by omega)).1] at h1
    have := ih (k + 1) h1
    rw [show k + 1 + m = k + (m + 1) by omega] at this
    exact this
theorem lik_bits (k : Nat) (h0 : 200 ≤ k) (h1 : k < 456) : (((likA k).term 1).bits.length + 7) / 8 ≤ k / 64 + 3 ∧ k / 10 ≤ (((likB k).term 1).bits.length + 7) / 8 := by
  have h := likGo_at 200 0 lik_all
  have := likOk_at 256 (0 + 200) h (k - 200) (by omega)
  rw [show 0 + 200 + (k - 200) = k by omega] at this
  exact this
end Go.Proofs.YtgmnkihldlajcaaDoor
