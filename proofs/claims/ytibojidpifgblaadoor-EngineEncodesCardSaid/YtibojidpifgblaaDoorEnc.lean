/-
  Plain Lean: the encoder of bins as a function of its state; bits packed into bytes. No program is named.
-/
import Derived.Test.YtibojidpifgblaaDoorEngSpec
namespace Go.Proofs.YtibojidpifgblaaDoor

/-- An encoder's state: its contexts, its interval, the bits outstanding, whether a first bit came, whether it is over, the bits. -/
structure Enc where
  st : List Int
  low : Int
  wid : Int
  outs : Nat
  begun : Bool
  over : Bool
  bits : List Int

def Enc.new (xs : List Int) : Enc := ⟨beginOf xs, 0, 510, 0, false, false, []⟩
def Enc.bit (e : Enc) (b : Int) : Enc := { e with bits := e.bits ++ [b] }
/-- What is written for one bit: the first is left out, those outstanding follow. -/
def Enc.put (e : Enc) (b : Int) : Enc := { e with begun := true, outs := 0, bits := (if e.begun then e.bits ++ [b] else e.bits) ++ List.replicate e.outs (1 - b) }
def Enc.shift (e : Enc) : Enc :=
  let f := if e.low < 256 then e.put 0 else if 512 ≤ e.low then { e with low := e.low - 512 }.put 1 else { e with low := e.low - 256, outs := e.outs + 1 }
  { f with wid := 2 * f.wid, low := 2 * f.low }
def Enc.norm : Nat → Enc → Enc
  | 0, e => e
  | k + 1, e => if e.wid < 256 then Enc.norm k e.shift else e
def Enc.may (e : Enc) (b : Int) : Bool := (b == 0 || b == 1) && !e.over
def Enc.canBin (e : Enc) (c b : Int) : Bool := e.may b && decide (0 ≤ c ∧ c < e.st.length)
/-- The context's part of the interval. -/
def Enc.narrow (e : Enc) (c : Nat) (b : Int) : Enc :=
  let s := e.st.getD c 0
  let less := widthOf s (e.wid / 64 % 4)
  if b = s % 2 then { e with wid := e.wid - less, st := e.st.set c (nextOf s true) }
  else { e with low := e.low + (e.wid - less), wid := less, st := e.st.set c (nextOf s false) }
def Enc.bin (e : Enc) (c b : Int) : Enc := if e.canBin c b then Enc.norm 8 (e.narrow c.toNat b) else e
def Enc.half (e : Enc) (b : Int) : Enc :=
  let l := 2 * e.low + b * e.wid
  if 1024 ≤ l then { e with low := l - 1024 }.put 1 else if l < 512 then { e with low := l }.put 0 else { e with low := l - 512, outs := e.outs + 1 }
def Enc.bypass (e : Enc) (b : Int) : Enc := if e.may b then e.half b else e
def Enc.last (e : Enc) (b : Int) : Enc := if b = 1 then { e with low := e.low + (e.wid - 2), wid := 2 } else { e with wid := e.wid - 2 }
def Enc.close (e : Enc) : Enc := { ((e.put (e.low / 512 % 2)).bit (e.low / 256 % 2)).bit 1 with over := true }
def Enc.term (e : Enc) (b : Int) : Enc :=
  if e.may b then (if b = 1 then (Enc.norm 8 (e.last b)).close else Enc.norm 8 (e.last b)) else e
def codeOf (ok : Bool) : Int := if ok then 0 else 501

/-- What is true of each encoder between calls. -/
structure Enc.Ok (e : Enc) : Prop where
  st : ∀ i, 0 ≤ e.st.getD i 0 ∧ e.st.getD i 0 < 128
  low : 0 ≤ e.low
  top : e.low + e.wid ≤ 1024
  wid0 : 2 ≤ e.wid
  wid1 : e.wid ≤ 510
  bits : ∀ b ∈ e.bits, b = 0 ∨ b = 1
/-- How much it has written, with what is outstanding. -/
def Enc.cost (e : Enc) : Nat := e.bits.length + e.outs

theorem Enc.cost_put (e : Enc) (b : Int) : (e.put b).cost ≤ e.cost + 1 := by
  unfold Enc.put Enc.cost
  cases e.begun <;> simp <;> omega
theorem Enc.ok_put (e : Enc) (b : Int) (hb : b = 0 ∨ b = 1) (h : e.Ok) : (e.put b).Ok := by
  refine ⟨h.st, h.low, h.top, h.wid0, h.wid1, ?_⟩
  intro x hx
  simp only [Enc.put, List.mem_append, List.mem_replicate] at hx
  rcases hx with hx | ⟨_, rfl⟩
  · split at hx
    · rcases List.mem_append.1 hx with h1 | h1
      · exact h.bits x h1
      · simp at h1; omega
    · exact h.bits x hx
  · omega
theorem Enc.ok_low (e : Enc) (l w : Int) (k : Nat) (h : e.Ok) (h0 : 0 ≤ l) (h1 : l + w ≤ 1024) (h2 : 2 ≤ w) (h3 : w ≤ 510) : Enc.Ok { e with low := l, wid := w, outs := k } :=
  ⟨h.st, h0, h1, h2, h3, h.bits⟩
theorem Enc.ok_shift (e : Enc) (h : e.Ok) (hw : e.wid < 256) : e.shift.Ok ∧ e.shift.wid = 2 * e.wid ∧ e.shift.cost ≤ e.cost + 1 := by
  have hl := h.low
  have ht := h.top
  have h0 := h.wid0
  unfold Enc.shift
  by_cases c1 : e.low < 256
  · rw [if_pos c1]
    exact ⟨(e.put 0).ok_low _ _ _ (e.ok_put 0 (.inl rfl) h) (by show 0 ≤ 2 * e.low; omega) (by show 2 * e.low + 2 * e.wid ≤ 1024; omega) (by show 2 ≤ 2 * e.wid; omega) (by show 2 * e.wid ≤ 510; omega), rfl, e.cost_put 0⟩
  · rw [if_neg c1]
    by_cases c2 : 512 ≤ e.low
    · rw [if_pos c2]
      have h1 : Enc.Ok { e with low := e.low - 512 } := e.ok_low _ _ _ h (by omega) (by omega) h0 h.wid1
      exact ⟨(Enc.put { e with low := e.low - 512 } 1).ok_low _ _ _ (Enc.ok_put _ 1 (.inr rfl) h1) (by show 0 ≤ 2 * (e.low - 512); omega) (by show 2 * (e.low - 512) + 2 * e.wid ≤ 1024; omega) (by show 2 ≤ 2 * e.wid; omega) (by show 2 * e.wid ≤ 510; omega), rfl, Enc.cost_put { e with low := e.low - 512 } 1⟩
    · rw [if_neg c2]
      exact ⟨e.ok_low _ _ _ h (by show 0 ≤ 2 * (e.low - 256); omega) (by show 2 * (e.low - 256) + 2 * e.wid ≤ 1024; omega) (by show 2 ≤ 2 * e.wid; omega) (by show 2 * e.wid ≤ 510; omega), rfl, by show e.bits.length + (e.outs + 1) ≤ e.bits.length + e.outs + 1; omega⟩
theorem Enc.norm_step (k : Nat) (e : Enc) (hw : e.wid < 256) : Enc.norm (k + 1) e = Enc.norm k e.shift := by
  show (if e.wid < 256 then Enc.norm k e.shift else e) = _
  rw [if_pos hw]
theorem Enc.norm_done (k : Nat) (e : Enc) (hw : 256 ≤ e.wid) : Enc.norm k e = e := by
  cases k with
  | zero => rfl
  | succ k => show (if e.wid < 256 then Enc.norm k e.shift else e) = e; rw [if_neg (by omega)]
/-- Norm ends with a width from 256 on, if its steps are enough. -/
theorem Enc.ok_norm (k : Nat) : ∀ e : Enc, e.Ok → 256 ≤ e.wid * 2 ^ k → (Enc.norm k e).Ok ∧ 256 ≤ (Enc.norm k e).wid ∧ (Enc.norm k e).cost ≤ e.cost + k := by
  induction k with
  | zero => intro e h hk; simp at hk; exact ⟨h, hk, Nat.le_refl _⟩
  | succ k ih =>
    intro e h hk
    by_cases hw : e.wid < 256
    · rw [Enc.norm_step k e hw]
      have h1 := e.ok_shift h hw
      have h2 := ih e.shift h1.1 (by rw [h1.2.1, Int.mul_comm 2, Int.mul_assoc, Int.mul_comm 2, ← Int.pow_succ]; exact hk)
      exact ⟨h2.1, h2.2.1, by omega⟩
    · rw [Enc.norm_done _ e (by omega)]
      exact ⟨h, by omega, by omega⟩

set_option maxRecDepth 100000 in
theorem widthL_range : ∀ i, i < 256 → 2 ≤ widthL.getD i 0 ∧ widthL.getD i 0 ≤ 240 := by decide
set_option maxRecDepth 100000 in
theorem downL_range : ∀ i, i < 64 → 0 ≤ downL.getD i 0 ∧ downL.getD i 0 < 64 := by decide
theorem widthOf_range (s q : Int) (h0 : 0 ≤ s) (h1 : s < 128) (h2 : 0 ≤ q) (h3 : q < 4) : 2 ≤ widthOf s q ∧ widthOf s q ≤ 240 := widthL_range _ (by omega)
theorem nextOf_range (s : Int) (m : Bool) (h0 : 0 ≤ s) (h1 : s < 128) : 0 ≤ nextOf s m ∧ nextOf s m < 128 := by
  have a := downL_range 0 (by omega)
  have b := downL_range (s / 2).toNat (by omega)
  unfold nextOf
  cases m
  · rw [if_neg (by decide)]
    split <;> omega
  · rw [if_pos rfl]
    split <;> omega
theorem beginOf_range (xs : List Int) (i : Nat) : 0 ≤ (beginOf xs).getD i 0 ∧ (beginOf xs).getD i 0 < 128 := by
  unfold beginOf
  by_cases h : i < xs.length
  · simp only [List.getD, List.getElem?_map, List.getElem?_eq_getElem h, Option.map_some, Option.getD_some]
    split <;> omega
  · simp [List.getD, h]
theorem Enc.ok_new (xs : List Int) : (Enc.new xs).Ok := ⟨beginOf_range xs, by simp [Enc.new], by simp [Enc.new], by simp [Enc.new], by simp [Enc.new], by simp [Enc.new]⟩
theorem getD_set (xs : List Int) (c i : Nat) (v : Int) : (xs.set c v).getD i 0 = if c = i ∧ c < xs.length then v else xs.getD i 0 := by
  simp only [List.getD, List.getElem?_set]
  by_cases h : c = i
  · subst h
    by_cases h2 : c < xs.length <;> simp [h2]
  · simp [h]
theorem Enc.ok_set (e : Enc) (c : Nat) (v : Int) (h : e.Ok) (h0 : 0 ≤ v) (h1 : v < 128) : Enc.Ok { e with st := e.st.set c v } := by
  refine ⟨fun i => ?_, h.low, h.top, h.wid0, h.wid1, h.bits⟩
  have := h.st i
  show 0 ≤ (e.st.set c v).getD i 0 ∧ (e.st.set c v).getD i 0 < 128
  rw [getD_set]
  split <;> omega
theorem Enc.ok_narrow (e : Enc) (c : Nat) (b : Int) (h : e.Ok) (hw : 256 ≤ e.wid) : (e.narrow c b).Ok ∧ (e.narrow c b).cost = e.cost ∧ 256 ≤ (e.narrow c b).wid * 2 ^ 8 := by
  have hs := h.st c
  have hl := widthOf_range (e.st.getD c 0) (e.wid / 64 % 4) hs.1 hs.2 (by omega) (by omega)
  have h1 := h.wid1
  have h2 := h.low
  have h3 := h.top
  unfold Enc.narrow
  dsimp only
  split
  · refine ⟨?_, rfl, ?_⟩
    · have := nextOf_range (e.st.getD c 0) true hs.1 hs.2
      exact Enc.ok_set { e with wid := e.wid - widthOf (e.st.getD c 0) (e.wid / 64 % 4) } c _ (e.ok_low _ _ _ h (by omega) (by omega) (by omega) (by omega)) this.1 this.2
    · show 256 ≤ (e.wid - widthOf (e.st.getD c 0) (e.wid / 64 % 4)) * 2 ^ 8
      omega
  · refine ⟨?_, rfl, ?_⟩
    · have := nextOf_range (e.st.getD c 0) false hs.1 hs.2
      exact Enc.ok_set { e with low := e.low + (e.wid - widthOf (e.st.getD c 0) (e.wid / 64 % 4)), wid := widthOf (e.st.getD c 0) (e.wid / 64 % 4) } c _ (e.ok_low _ _ _ h (by omega) (by omega) (by omega) (by omega)) this.1 this.2
    · show 256 ≤ widthOf (e.st.getD c 0) (e.wid / 64 % 4) * 2 ^ 8
      omega
/-- Between calls the width is at least 256, too. -/
structure Enc.Good (e : Enc) : Prop where
  ok : e.Ok
  wide : 256 ≤ e.wid
theorem Enc.good_new (xs : List Int) : (Enc.new xs).Good := ⟨Enc.ok_new xs, by simp [Enc.new]⟩
theorem Enc.good_bin (e : Enc) (c b : Int) (h : e.Good) : (e.bin c b).Good ∧ (e.bin c b).cost ≤ e.cost + 8 := by
  unfold Enc.bin
  split
  · have h1 := e.ok_narrow c.toNat b h.ok h.wide
    have h2 := Enc.ok_norm 8 _ h1.1 h1.2.2
    exact ⟨⟨h2.1, h2.2.1⟩, by rw [← h1.2.1]; exact h2.2.2⟩
  · exact ⟨h, by omega⟩
theorem Enc.good_half (e : Enc) (b : Int) (hb : b = 0 ∨ b = 1) (h : e.Good) : (e.half b).Good ∧ (e.half b).cost ≤ e.cost + 1 := by
  have h1 := h.ok.wid1
  have h2 := h.ok.low
  have h3 := h.ok.top
  have h4 := h.wide
  obtain ⟨m, hm, hm2⟩ : ∃ m, b * e.wid = m ∧ (m = 0 ∨ m = e.wid) := by rcases hb with rfl | rfl <;> simp
  unfold Enc.half
  dsimp only
  rw [hm]
  by_cases c1 : 1024 ≤ 2 * e.low + m
  · rw [if_pos c1]
    have : Enc.Ok { e with low := 2 * e.low + m - 1024 } := e.ok_low _ _ _ h.ok (by omega) (by omega) (by omega) (by omega)
    exact ⟨⟨Enc.ok_put _ 1 (.inr rfl) this, h4⟩, Enc.cost_put { e with low := 2 * e.low + m - 1024 } 1⟩
  · rw [if_neg c1]
    by_cases c2 : 2 * e.low + m < 512
    · rw [if_pos c2]
      have : Enc.Ok { e with low := 2 * e.low + m } := e.ok_low _ _ _ h.ok (by omega) (by omega) (by omega) (by omega)
      exact ⟨⟨Enc.ok_put _ 0 (.inl rfl) this, h4⟩, Enc.cost_put { e with low := 2 * e.low + m } 0⟩
    · rw [if_neg c2]
      exact ⟨⟨e.ok_low _ _ _ h.ok (by omega) (by omega) (by omega) (by omega), h4⟩, by show e.bits.length + (e.outs + 1) ≤ e.bits.length + e.outs + 1; omega⟩
theorem Enc.may_bit (e : Enc) (b : Int) (h : e.may b = true) : (b = 0 ∨ b = 1) ∧ e.over = false := by
  unfold Enc.may at h
  simpa using h
theorem Enc.good_bypass (e : Enc) (b : Int) (h : e.Good) : (e.bypass b).Good ∧ (e.bypass b).cost ≤ e.cost + 1 := by
  unfold Enc.bypass
  split
  · rename_i hb
    exact e.good_half b (e.may_bit b hb).1 h
  · exact ⟨h, by omega⟩
theorem Enc.ok_last (e : Enc) (b : Int) (h : e.Good) : (e.last b).Ok ∧ (e.last b).cost = e.cost ∧ 256 ≤ (e.last b).wid * 2 ^ 8 := by
  have h1 := h.ok.wid1
  have h2 := h.ok.low
  have h3 := h.ok.top
  have h4 := h.wide
  unfold Enc.last
  split
  · exact ⟨e.ok_low _ _ _ h.ok (by omega) (by omega) (by omega) (by omega), rfl, by show 256 ≤ (2 : Int) * 2 ^ 8; omega⟩
  · exact ⟨e.ok_low _ _ _ h.ok (by omega) (by omega) (by omega) (by omega), rfl, by show 256 ≤ (e.wid - 2) * 2 ^ 8; omega⟩
theorem Enc.ok_bit (e : Enc) (b : Int) (hb : b = 0 ∨ b = 1) (h : e.Ok) : (e.bit b).Ok := by
  refine ⟨h.st, h.low, h.top, h.wid0, h.wid1, ?_⟩
  intro x hx
  rcases List.mem_append.1 hx with h1 | h1
  · exact h.bits x h1
  · simp at h1; omega
theorem Enc.good_close (e : Enc) (h : e.Good) : e.close.Good ∧ e.close.cost ≤ e.cost + 3 := by
  have h1 := Enc.ok_bit _ 1 (.inr rfl) (Enc.ok_bit _ (e.low / 256 % 2) (by omega) (Enc.ok_put e (e.low / 512 % 2) (by omega) h.ok))
  refine ⟨⟨⟨h1.st, h1.low, h1.top, h1.wid0, h1.wid1, h1.bits⟩, h.wide⟩, ?_⟩
  have h2 := e.cost_put (e.low / 512 % 2)
  unfold Enc.cost at h2
  simp only [Enc.close, Enc.bit, Enc.cost, List.length_append, List.length_singleton]
  omega
theorem Enc.good_term (e : Enc) (b : Int) (h : e.Good) : (e.term b).Good ∧ (e.term b).cost ≤ e.cost + 11 := by
  have h1 := e.ok_last b h
  have h2 := Enc.ok_norm 8 _ h1.1 h1.2.2
  unfold Enc.term
  split
  · split
    · have h3 := Enc.good_close _ ⟨h2.1, h2.2.1⟩
      exact ⟨h3.1, by omega⟩
    · exact ⟨⟨h2.1, h2.2.1⟩, by omega⟩
  · exact ⟨h, by omega⟩

/-- Bits packed into bytes, the first bit uppermost. -/
def byteAt (bs : List Int) (i : Nat) : Int :=
  128 * bs.getD (8 * i) 0 + 64 * bs.getD (8 * i + 1) 0 + 32 * bs.getD (8 * i + 2) 0 + 16 * bs.getD (8 * i + 3) 0 + 8 * bs.getD (8 * i + 4) 0 + 4 * bs.getD (8 * i + 5) 0 + 2 * bs.getD (8 * i + 6) 0 + bs.getD (8 * i + 7) 0
def packed (bs : List Int) : List Int := (List.range ((bs.length + 7) / 8)).map (byteAt bs)
/-- The same, with room for one bit more. -/
def roomed (bs : List Int) : List Int := (List.range (bs.length / 8 + 1)).map (byteAt bs)
theorem packed_length (bs : List Int) : (packed bs).length = (bs.length + 7) / 8 := by simp [packed]
theorem roomed_length (bs : List Int) : (roomed bs).length = bs.length / 8 + 1 := by simp [roomed]
theorem roomed_at (bs : List Int) (i : Nat) (h : i < bs.length / 8 + 1) : (roomed bs).getD i 0 = byteAt bs i := by
  simp [roomed, List.getD, h]
theorem getD_beyond (bs : List Int) (i : Nat) (h : bs.length ≤ i) : bs.getD i 0 = 0 := by simp [List.getD, h]
theorem roomed_new (bs : List Int) (h : bs.length % 8 = 0) : roomed bs = packed bs ++ [0] := by
  have h1 : bs.length / 8 + 1 = (bs.length + 7) / 8 + 1 := by omega
  unfold roomed packed
  rw [h1, List.range_succ, List.map_append, List.map_singleton]
  congr 2
  unfold byteAt
  rw [getD_beyond, getD_beyond, getD_beyond, getD_beyond, getD_beyond, getD_beyond, getD_beyond, getD_beyond] <;> omega
theorem roomed_old (bs : List Int) (h : bs.length % 8 ≠ 0) : roomed bs = packed bs := by
  have h1 : bs.length / 8 + 1 = (bs.length + 7) / 8 := by omega
  unfold roomed packed
  rw [h1]
def place (n : Nat) : Int := [128, 64, 32, 16, 8, 4, 2, 1].getD (n % 8) 0
theorem getD_snoc (bs : List Int) (b : Int) (i : Nat) : (bs ++ [b]).getD i 0 = if i = bs.length then b else bs.getD i 0 := by
  simp only [List.getD]
  by_cases h : i < bs.length
  · rw [List.getElem?_append_left h, if_neg (by omega)]
  · rw [List.getElem?_append_right (by omega)]
    by_cases h2 : i = bs.length
    · subst h2; simp
    · rw [if_neg h2, List.getElem?_eq_none (by simp; omega), List.getElem?_eq_none (by omega)]
theorem place_cases (n : Nat) : (n % 8 = 0 ∧ place n = 128) ∨ (n % 8 = 1 ∧ place n = 64) ∨ (n % 8 = 2 ∧ place n = 32) ∨ (n % 8 = 3 ∧ place n = 16) ∨ (n % 8 = 4 ∧ place n = 8) ∨ (n % 8 = 5 ∧ place n = 4) ∨ (n % 8 = 6 ∧ place n = 2) ∨ (n % 8 = 7 ∧ place n = 1) := by
  have : n % 8 < 8 := Nat.mod_lt _ (by decide)
  unfold place
  rcases (show n % 8 = 0 ∨ n % 8 = 1 ∨ n % 8 = 2 ∨ n % 8 = 3 ∨ n % 8 = 4 ∨ n % 8 = 5 ∨ n % 8 = 6 ∨ n % 8 = 7 by omega) with h | h | h | h | h | h | h | h <;> rw [h] <;> simp
theorem byteAt_snoc (bs : List Int) (b : Int) (i : Nat) : byteAt (bs ++ [b]) i = byteAt bs i + (if i = bs.length / 8 then b * place bs.length else 0) := by
  unfold byteAt
  simp only [getD_snoc]
  have hz := getD_beyond bs bs.length (Nat.le_refl _)
  by_cases h : i = bs.length / 8
  · rw [if_pos h]
    rcases place_cases bs.length with ⟨h1, h2⟩ | ⟨h1, h2⟩ | ⟨h1, h2⟩ | ⟨h1, h2⟩ | ⟨h1, h2⟩ | ⟨h1, h2⟩ | ⟨h1, h2⟩ | ⟨h1, h2⟩ <;> rw [h2]
    · have e : 8 * i = bs.length := by omega
      rw [e, hz]; simp; omega
    · have e : 8 * i + 1 = bs.length := by omega
      rw [e, hz]; simp [show ¬ 8 * i = bs.length by omega, show ¬ 8 * i + 2 = bs.length by omega, show ¬ 8 * i + 3 = bs.length by omega, show ¬ 8 * i + 4 = bs.length by omega, show ¬ 8 * i + 5 = bs.length by omega, show ¬ 8 * i + 6 = bs.length by omega, show ¬ 8 * i + 7 = bs.length by omega]; omega
    · have e : 8 * i + 2 = bs.length := by omega
      rw [e, hz]; simp [show ¬ 8 * i = bs.length by omega, show ¬ 8 * i + 1 = bs.length by omega, show ¬ 8 * i + 3 = bs.length by omega, show ¬ 8 * i + 4 = bs.length by omega, show ¬ 8 * i + 5 = bs.length by omega, show ¬ 8 * i + 6 = bs.length by omega, show ¬ 8 * i + 7 = bs.length by omega]; omega
    · have e : 8 * i + 3 = bs.length := by omega
      rw [e, hz]; simp [show ¬ 8 * i = bs.length by omega, show ¬ 8 * i + 1 = bs.length by omega, show ¬ 8 * i + 2 = bs.length by omega, show ¬ 8 * i + 4 = bs.length by omega, show ¬ 8 * i + 5 = bs.length by omega, show ¬ 8 * i + 6 = bs.length by omega, show ¬ 8 * i + 7 = bs.length by omega]; omega
    · have e : 8 * i + 4 = bs.length := by omega
      rw [e, hz]; simp [show ¬ 8 * i = bs.length by omega, show ¬ 8 * i + 1 = bs.length by omega, show ¬ 8 * i + 2 = bs.length by omega, show ¬ 8 * i + 3 = bs.length by omega, show ¬ 8 * i + 5 = bs.length by omega, show ¬ 8 * i + 6 = bs.length by omega, show ¬ 8 * i + 7 = bs.length by omega]; omega
    · have e : 8 * i + 5 = bs.length := by omega
      rw [e, hz]; simp [show ¬ 8 * i = bs.length by omega, show ¬ 8 * i + 1 = bs.length by omega, show ¬ 8 * i + 2 = bs.length by omega, show ¬ 8 * i + 3 = bs.length by omega, show ¬ 8 * i + 4 = bs.length by omega, show ¬ 8 * i + 6 = bs.length by omega, show ¬ 8 * i + 7 = bs.length by omega]; omega
    · have e : 8 * i + 6 = bs.length := by omega
      rw [e, hz]; simp [show ¬ 8 * i = bs.length by omega, show ¬ 8 * i + 1 = bs.length by omega, show ¬ 8 * i + 2 = bs.length by omega, show ¬ 8 * i + 3 = bs.length by omega, show ¬ 8 * i + 4 = bs.length by omega, show ¬ 8 * i + 5 = bs.length by omega, show ¬ 8 * i + 7 = bs.length by omega]; omega
    · have e : 8 * i + 7 = bs.length := by omega
      rw [e, hz]; simp [show ¬ 8 * i = bs.length by omega, show ¬ 8 * i + 1 = bs.length by omega, show ¬ 8 * i + 2 = bs.length by omega, show ¬ 8 * i + 3 = bs.length by omega, show ¬ 8 * i + 4 = bs.length by omega, show ¬ 8 * i + 5 = bs.length by omega, show ¬ 8 * i + 6 = bs.length by omega]
  · rw [if_neg h]
    rw [if_neg (by omega), if_neg (by omega), if_neg (by omega), if_neg (by omega), if_neg (by omega), if_neg (by omega), if_neg (by omega), if_neg (by omega)]
    omega
theorem packed_snoc (bs : List Int) (b : Int) : packed (bs ++ [b]) = (roomed bs).set (bs.length / 8) (byteAt bs (bs.length / 8) + b * place bs.length) := by
  apply List.ext_getElem?
  intro i
  unfold packed roomed
  have hl : ((bs ++ [b]).length + 7) / 8 = bs.length / 8 + 1 := by simp; omega
  rw [hl]
  by_cases h : i < bs.length / 8 + 1
  · rw [List.getElem?_set]
    by_cases h2 : bs.length / 8 = i
    · subst h2
      simp [byteAt_snoc]
    · rw [if_neg h2]
      simp [h, byteAt_snoc, show ¬ i = bs.length / 8 by omega]
  · rw [List.getElem?_eq_none (by simp; omega), List.getElem?_eq_none (by simp; omega)]
theorem bit_getD (bs : List Int) (h : ∀ b ∈ bs, b = 0 ∨ b = 1) (i : Nat) : bs.getD i 0 = 0 ∨ bs.getD i 0 = 1 := by
  by_cases hi : i < bs.length
  · simp only [List.getD, List.getElem?_eq_getElem hi, Option.getD_some]
    exact h _ (List.getElem_mem hi)
  · left; exact getD_beyond bs i (by omega)
theorem byteAt_range (bs : List Int) (h : ∀ b ∈ bs, b = 0 ∨ b = 1) (i : Nat) : 0 ≤ byteAt bs i ∧ byteAt bs i ≤ 255 := by
  have a0 := bit_getD bs h (8 * i)
  have a1 := bit_getD bs h (8 * i + 1)
  have a2 := bit_getD bs h (8 * i + 2)
  have a3 := bit_getD bs h (8 * i + 3)
  have a4 := bit_getD bs h (8 * i + 4)
  have a5 := bit_getD bs h (8 * i + 5)
  have a6 := bit_getD bs h (8 * i + 6)
  have a7 := bit_getD bs h (8 * i + 7)
  unfold byteAt
  omega
/-- The last byte ends with noughts where no bit is yet. -/
theorem byteAt_mod (bs : List Int) : byteAt bs (bs.length / 8) % (2 * place bs.length) = 0 := by
  unfold byteAt
  generalize hi : bs.length / 8 = i
  rcases place_cases bs.length with ⟨h1, h2⟩ | ⟨h1, h2⟩ | ⟨h1, h2⟩ | ⟨h1, h2⟩ | ⟨h1, h2⟩ | ⟨h1, h2⟩ | ⟨h1, h2⟩ | ⟨h1, h2⟩ <;> rw [h2]
  · rw [getD_beyond bs (8 * i) (by omega), getD_beyond bs (8 * i + 1) (by omega), getD_beyond bs (8 * i + 2) (by omega), getD_beyond bs (8 * i + 3) (by omega), getD_beyond bs (8 * i + 4) (by omega), getD_beyond bs (8 * i + 5) (by omega), getD_beyond bs (8 * i + 6) (by omega), getD_beyond bs (8 * i + 7) (by omega)]; omega
  · rw [getD_beyond bs (8 * i + 1) (by omega), getD_beyond bs (8 * i + 2) (by omega), getD_beyond bs (8 * i + 3) (by omega), getD_beyond bs (8 * i + 4) (by omega), getD_beyond bs (8 * i + 5) (by omega), getD_beyond bs (8 * i + 6) (by omega), getD_beyond bs (8 * i + 7) (by omega)]; omega
  · rw [getD_beyond bs (8 * i + 2) (by omega), getD_beyond bs (8 * i + 3) (by omega), getD_beyond bs (8 * i + 4) (by omega), getD_beyond bs (8 * i + 5) (by omega), getD_beyond bs (8 * i + 6) (by omega), getD_beyond bs (8 * i + 7) (by omega)]; omega
  · rw [getD_beyond bs (8 * i + 3) (by omega), getD_beyond bs (8 * i + 4) (by omega), getD_beyond bs (8 * i + 5) (by omega), getD_beyond bs (8 * i + 6) (by omega), getD_beyond bs (8 * i + 7) (by omega)]; omega
  · rw [getD_beyond bs (8 * i + 4) (by omega), getD_beyond bs (8 * i + 5) (by omega), getD_beyond bs (8 * i + 6) (by omega), getD_beyond bs (8 * i + 7) (by omega)]; omega
  · rw [getD_beyond bs (8 * i + 5) (by omega), getD_beyond bs (8 * i + 6) (by omega), getD_beyond bs (8 * i + 7) (by omega)]; omega
  · rw [getD_beyond bs (8 * i + 6) (by omega), getD_beyond bs (8 * i + 7) (by omega)]; omega
  · rw [getD_beyond bs (8 * i + 7) (by omega)]; omega
/-- A bit is laid into a byte whose places from there on are free. -/
theorem lay_bit (y b : Nat) (k : Nat) (hb : b = 0 ∨ b = 1) (hm : y % 2 ^ (k + 1) = 0) : y ||| (b * 2 ^ k) = y + b * 2 ^ k := by
  obtain ⟨q, hq⟩ : ∃ q, y = 2 ^ (k + 1) * q := ⟨y / 2 ^ (k + 1), by have := Nat.div_add_mod y (2 ^ (k + 1)); omega⟩
  have hlt : b * 2 ^ k < 2 ^ (k + 1) := by
    rw [Nat.pow_succ]
    have := Nat.one_le_two_pow (n := k)
    rcases hb with rfl | rfl <;> omega
  rw [hq, ← Nat.two_pow_add_eq_or_of_lt hlt]
end Go.Proofs.YtibojidpifgblaaDoor
