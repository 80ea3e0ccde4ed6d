/-
  Plain Lean: what an encoder of bins writes, a decoder reads back. No program is named.
-/
import Derived.Test.YtibojidpifgblaaDoorDec
namespace Go.Proofs.YtibojidpifgblaaDoor

/-- Bits as a number, the first uppermost. -/
def valOf (bs : List Int) : Int := bs.foldl (fun x b => 2 * x + b) 0
theorem valOf_snoc (bs : List Int) (b : Int) : valOf (bs ++ [b]) = 2 * valOf bs + b := by simp [valOf]
theorem valOf_rep (bs : List Int) (c : Int) (n : Nat) : valOf (bs ++ List.replicate n c) = valOf bs * 2 ^ n + c * (2 ^ n - 1) := by
  induction n with
  | zero => simp
  | succ n ih =>
    rw [List.replicate_succ', ← List.append_assoc, valOf_snoc, ih, Int.pow_succ]
    generalize (2 : Int) ^ n = p
    generalize valOf bs = v
    have e1 : v * (p * 2) = 2 * (v * p) := by rw [Int.mul_comm p 2, ← Int.mul_assoc, Int.mul_comm v 2, Int.mul_assoc]
    have e2 : c * (p * 2 - 1) = 2 * (c * p) - c := by rw [Int.mul_sub, Int.mul_comm p 2, ← Int.mul_assoc, Int.mul_comm c 2, Int.mul_assoc]; omega
    have e3 : c * (p - 1) = c * p - c := by rw [Int.mul_sub]; omega
    rw [e1, e2, e3]
    omega
theorem two_pos (n : Nat) : (1 : Int) ≤ 2 ^ n := by
  have : (0 : Int) < 2 ^ n := Int.pow_pos (by decide)
  omega

/-- The interval's exact lower end, and how often it was widened. -/
def Enc.exact (e : Enc) : Int := e.low + 512 * (2 ^ e.outs - 1) + 1024 * (valOf e.bits * 2 ^ e.outs)
def Enc.steps (e : Enc) : Nat := e.outs + if e.begun then e.bits.length + 1 else 0
structure Enc.Fit (e : Enc) : Prop where
  ok : e.Ok
  none : e.begun = false → e.bits = []
  top : e.exact + e.wid ≤ 510 * 2 ^ e.steps

theorem Enc.put_steps (e : Enc) (b : Int) (h : e.begun = false → e.bits = []) : (e.put b).steps = e.steps + 1 := by
  unfold Enc.put Enc.steps
  cases hb : e.begun
  · rw [h hb]; simp
  · simp; omega
theorem Enc.put_begun (e : Enc) (b : Int) : (e.put b).begun = true := rfl
theorem Enc.put_zero (e : Enc) (h : e.begun = false → e.bits = []) : (e.put 0).exact = e.low + 1024 * (2 * (valOf e.bits * 2 ^ e.outs) + 2 ^ e.outs - 1) := by
  have hp : valOf (e.put 0).bits = 2 * (valOf e.bits * 2 ^ e.outs) + 2 ^ e.outs - 1 := by
    unfold Enc.put
    dsimp only
    rw [valOf_rep]
    cases hb : e.begun
    · rw [h hb, if_neg (by decide), show valOf [] = 0 from rfl, Int.zero_mul, Int.sub_zero, Int.one_mul, Int.mul_zero, Int.zero_add, Int.zero_add]
    · rw [if_pos rfl, valOf_snoc, Int.add_zero, Int.mul_assoc, Int.sub_zero, Int.one_mul]; omega
  unfold Enc.exact
  rw [hp]
  show e.low + 512 * (2 ^ 0 - 1) + 1024 * (_ * 2 ^ 0) = _
  omega
theorem Enc.put_one (e : Enc) (h : e.begun = true) : (e.put 1).exact = e.low + 1024 * (2 * (valOf e.bits * 2 ^ e.outs) + 2 ^ e.outs) := by
  have hp : valOf (e.put 1).bits = 2 * (valOf e.bits * 2 ^ e.outs) + 2 ^ e.outs := by
    unfold Enc.put
    dsimp only
    rw [valOf_rep, if_pos h, valOf_snoc, Int.add_mul, Int.mul_assoc]
    omega
  unfold Enc.exact
  rw [hp]
  show e.low + 512 * (2 ^ 0 - 1) + 1024 * (_ * 2 ^ 0) = _
  omega
/-- One doubling, whatever is added below: the three ways. -/
theorem Enc.first_low (e : Enc) (h : e.begun = false → e.bits = []) (ht : e.exact + e.wid ≤ 510 * 2 ^ e.steps) (hb : e.begun = false) : e.low + e.wid < 512 := by
  unfold Enc.exact Enc.steps at ht
  rw [h hb, hb] at ht
  have hp := two_pos e.outs
  simp [valOf] at ht
  omega
theorem Enc.fit_shift (e : Enc) (h : e.Fit) (hw : e.wid < 256) : e.shift.Fit ∧ e.shift.exact = 2 * e.exact ∧ e.shift.steps = e.steps + 1 ∧ e.shift.wid = 2 * e.wid ∧ e.shift.st = e.st ∧ e.shift.over = e.over := by
  have hs := e.ok_shift h.ok hw
  have htop := h.top
  have hlo := h.ok.low
  have hwd := h.ok.wid0
  have hall : e.shift.exact = 2 * e.exact ∧ e.shift.steps = e.steps + 1 ∧ (e.shift.begun = false → e.shift.bits = []) ∧ e.shift.st = e.st ∧ e.shift.over = e.over := by
    unfold Enc.shift
    by_cases c1 : e.low < 256
    · rw [if_pos c1]
      have h1 := e.put_zero h.none
      have h2 := e.put_steps 0 h.none
      refine ⟨?_, h2, (fun hb => nomatch hb), rfl, rfl⟩
      unfold Enc.exact at h1 ⊢
      dsimp only
      have h3 : (e.put 0).outs = 0 := rfl
      have h4 : (e.put 0).low = e.low := rfl
      rw [h3, h4] at h1 ⊢
      generalize valOf e.bits * 2 ^ e.outs = q at *
      generalize valOf (e.put 0).bits * 2 ^ 0 = r at *
      generalize (2 : Int) ^ e.outs = p at *
      omega
    · rw [if_neg c1]
      by_cases c2 : 512 ≤ e.low
      · rw [if_pos c2]
        have hb : e.begun = true := by
          cases hb : e.begun
          · have := e.first_low h.none htop hb
            omega
          · rfl
        have h1 := Enc.put_one { e with low := e.low - 512 } hb
        have h2 := Enc.put_steps { e with low := e.low - 512 } 1 h.none
        refine ⟨?_, h2, (fun hb => nomatch hb), rfl, rfl⟩
        unfold Enc.exact at h1 ⊢
        dsimp only at h1 ⊢
        have h3 : (Enc.put { e with low := e.low - 512 } 1).outs = 0 := rfl
        have h4 : (Enc.put { e with low := e.low - 512 } 1).low = e.low - 512 := rfl
        rw [h3, h4] at h1 ⊢
        generalize valOf e.bits * 2 ^ e.outs = q at *
        generalize valOf (Enc.put { e with low := e.low - 512 } 1).bits * 2 ^ 0 = r at *
        generalize (2 : Int) ^ e.outs = p at *
        omega
      · rw [if_neg c2]
        refine ⟨?_, ?_, h.none, rfl, rfl⟩
        · unfold Enc.exact
          dsimp only
          have e1 : valOf e.bits * 2 ^ (e.outs + 1) = 2 * (valOf e.bits * 2 ^ e.outs) := by rw [Int.pow_succ, ← Int.mul_assoc]; omega
          rw [e1, Int.pow_succ]
          generalize valOf e.bits * 2 ^ e.outs = q at *
          generalize (2 : Int) ^ e.outs = p at *
          omega
        · unfold Enc.steps; dsimp only; omega
  obtain ⟨h1, h2, h3, h4, h5⟩ := hall
  refine ⟨⟨hs.1, h3, ?_⟩, h1, h2, hs.2.1, h4, h5⟩
  rw [h1, h2, hs.2.1, Int.pow_succ]
  omega

theorem Enc.fit_norm (k : Nat) : ∀ e : Enc, e.Fit → 256 ≤ e.wid * 2 ^ k →
    (Enc.norm k e).Fit ∧ (Enc.norm k e).exact = e.exact * 2 ^ need k e.wid ∧ (Enc.norm k e).steps = e.steps + need k e.wid ∧ (Enc.norm k e).wid = e.wid * 2 ^ need k e.wid ∧ (Enc.norm k e).st = e.st ∧ (Enc.norm k e).over = e.over := by
  induction k with
  | zero => intro e h _; exact ⟨h, by simp [need, Enc.norm], by simp [need, Enc.norm], by simp [need, Enc.norm], rfl, rfl⟩
  | succ k ih =>
    intro e h hw
    by_cases hl : e.wid < 256
    · rw [Enc.norm_step k e hl, need_step k e.wid hl]
      obtain ⟨s1, s2, s3, s4, s5, s6⟩ := e.fit_shift h hl
      obtain ⟨n1, n2, n3, n4, n5, n6⟩ := ih e.shift s1 (by rw [s4, Int.mul_comm 2, Int.mul_assoc, Int.mul_comm 2, ← Int.pow_succ]; exact hw)
      rw [s4] at n2 n3 n4
      refine ⟨n1, ?_, by omega, ?_, n5.trans s5, n6.trans s6⟩
      · rw [n2, s2, Int.pow_succ, Int.mul_comm 2 e.exact, Int.mul_assoc, Int.mul_comm 2]
      · rw [n4, Int.pow_succ, Int.mul_comm 2 e.wid, Int.mul_assoc, Int.mul_comm 2]
    · rw [Enc.norm_done _ e (by omega), need_done _ e.wid (by omega)]
      exact ⟨h, by simp, by simp, by simp, rfl, rfl⟩

/-- Between calls. -/
structure Enc.Live (e : Enc) : Prop where
  fit : e.Fit
  wide : 256 ≤ e.wid
  going : e.over = false
theorem Enc.Live.good {e : Enc} (h : e.Live) : e.Good := ⟨h.fit.ok, h.wide⟩
theorem Enc.live_new (xs : List Int) : (Enc.new xs).Live := ⟨⟨Enc.ok_new xs, fun _ => rfl, by simp [Enc.exact, Enc.steps, Enc.new, valOf]⟩, by simp [Enc.new], rfl⟩

/-- The number V of 9 + K bits lies in the interval. -/
def Enc.In (e : Enc) (K : Nat) (V : Int) : Prop := ∃ m, e.steps + m = K ∧ e.exact * 2 ^ m ≤ V ∧ V < (e.exact + e.wid) * 2 ^ m
theorem Enc.in_nest {e f : Enc} {n K : Nat} {V : Int} (hs : f.steps = e.steps + n) (h0 : e.exact * 2 ^ n ≤ f.exact) (h1 : f.exact + f.wid ≤ (e.exact + e.wid) * 2 ^ n) (h : f.In K V) : e.In K V := by
  obtain ⟨m, g1, g2, g3⟩ := h
  have hp : (0 : Int) ≤ 2 ^ m := by have := two_pos m; omega
  refine ⟨n + m, by omega, ?_, ?_⟩
  · rw [Int.pow_add, ← Int.mul_assoc]
    exact Int.le_trans (Int.mul_le_mul_of_nonneg_right h0 hp) g2
  · rw [Int.pow_add, ← Int.mul_assoc]
    exact Int.lt_of_lt_of_le g3 (Int.mul_le_mul_of_nonneg_right h1 hp)

theorem readTo_add (s : ByteArray) (p a b : Nat) : readTo s p (a + b) = readTo s p a * 2 ^ b + readTo s (p + a) b := by
  induction b with
  | zero => simp [readTo]
  | succ b ih =>
    show 2 * readTo s p (a + b) + bitOf s (p + (a + b)) = readTo s p a * 2 ^ (b + 1) + (2 * readTo s (p + a) b + bitOf s (p + a + b))
    rw [ih, Int.pow_succ, ← Int.mul_assoc, Nat.add_assoc]
    omega
/-- So the bits that were read so far lie in it. -/
theorem Enc.in_read {e : Enc} {K : Nat} {s : ByteArray} (h : e.In K (readTo s 0 (9 + K))) : e.exact ≤ readTo s 0 (9 + e.steps) ∧ readTo s 0 (9 + e.steps) < e.exact + e.wid ∧ e.steps ≤ K := by
  obtain ⟨m, rfl, g2, g3⟩ := h
  have hr := readTo_range s (0 + (9 + e.steps)) m
  rw [← Nat.add_assoc, readTo_add] at g2 g3
  have hp := two_pos m
  refine ⟨?_, ?_, by omega⟩
  · apply Int.not_lt.1
    intro hlt
    have := Int.mul_le_mul_of_nonneg_right (show readTo s 0 (9 + e.steps) + 1 ≤ e.exact by omega) (show (0 : Int) ≤ 2 ^ m by omega)
    rw [Int.add_mul, Int.one_mul] at this
    omega
  · apply Int.not_le.1
    intro hle
    have := Int.mul_le_mul_of_nonneg_right hle (show (0 : Int) ≤ 2 ^ m by omega)
    omega

/-- A decoder that stands where an encoder stood. -/
structure Enc.Meets (e : Enc) (d : Dec) : Prop where
  st : d.st = e.st
  wid : d.wid = e.wid
  pos : d.pos = 9 + e.steps
  off : d.off = readTo d.s 0 (9 + e.steps) - e.exact
  over : d.over = false

theorem Enc.narrow_same (e : Enc) (c : Nat) (b : Int) : (e.narrow c b).steps = e.steps ∧ (e.narrow c b).over = e.over ∧ (e.narrow c b).begun = e.begun ∧ (e.narrow c b).bits = e.bits := by
  unfold Enc.narrow; dsimp only; split <;> exact ⟨rfl, rfl, rfl, rfl⟩
/-- A context's bin: where its part of the interval lies. -/
theorem Enc.narrow_part (e : Enc) (c : Nat) (b : Int) (h : e.Live) :
    let less := widthOf (e.st.getD c 0) (e.wid / 64 % 4)
    2 ≤ less ∧ less ≤ 240 ∧ (b = e.st.getD c 0 % 2 → (e.narrow c b).exact = e.exact ∧ (e.narrow c b).wid = e.wid - less ∧ (e.narrow c b).st = e.st.set c (nextOf (e.st.getD c 0) true)) ∧
      (b ≠ e.st.getD c 0 % 2 → (e.narrow c b).exact = e.exact + (e.wid - less) ∧ (e.narrow c b).wid = less ∧ (e.narrow c b).st = e.st.set c (nextOf (e.st.getD c 0) false)) := by
  have hs := h.fit.ok.st c
  have h1 := h.wide
  have h2 := h.fit.ok.wid1
  have hl := widthOf_range (e.st.getD c 0) (e.wid / 64 % 4) hs.1 hs.2 (by omega) (by omega)
  refine ⟨hl.1, hl.2, fun hb => ?_, fun hb => ?_⟩
  · unfold Enc.narrow; dsimp only; rw [if_pos hb]; exact ⟨rfl, rfl, rfl⟩
  · unfold Enc.narrow; dsimp only; rw [if_neg hb]; refine ⟨?_, rfl, rfl⟩
    unfold Enc.exact; dsimp only; omega
theorem Enc.fit_narrow (e : Enc) (c : Nat) (b : Int) (h : e.Live) : (e.narrow c b).Fit ∧ e.exact ≤ (e.narrow c b).exact ∧ (e.narrow c b).exact + (e.narrow c b).wid ≤ e.exact + e.wid := by
  obtain ⟨hl0, hl1, hy, hn⟩ := e.narrow_part c b h
  have hok := (e.ok_narrow c b h.fit.ok h.wide).1
  have hsame := e.narrow_same c b
  have htop := h.fit.top
  have hwd := h.wide
  have hb2 : e.exact ≤ (e.narrow c b).exact ∧ (e.narrow c b).exact + (e.narrow c b).wid ≤ e.exact + e.wid := by
    by_cases hb : b = e.st.getD c 0 % 2
    · obtain ⟨h1, h2, -⟩ := hy hb; omega
    · obtain ⟨h1, h2, -⟩ := hn hb; omega
  refine ⟨⟨hok, ?_, ?_⟩, hb2⟩
  · rw [hsame.2.2.1, hsame.2.2.2]; exact h.fit.none
  · rw [hsame.1]; omega
theorem Enc.bin_is (e : Enc) (c : Nat) (b : Int) (h : e.Live) (hc : c < e.st.length) (hb : b = 0 ∨ b = 1) : e.bin c b = Enc.norm 8 (e.narrow c b) := by
  have hcan : e.canBin c b = true := by
    unfold Enc.canBin Enc.may
    rw [h.going]
    have : c < e.st.length := hc
    rcases hb with rfl | rfl <;> simp [this]
  unfold Enc.bin
  rw [if_pos hcan, Int.toNat_natCast]
theorem Enc.live_norm {e f : Enc} (h : e.Fit) (hw : 256 ≤ e.wid * 2 ^ 8) (ho : e.over = false) (hf : f = Enc.norm 8 e) :
    f.Live ∧ f.exact = e.exact * 2 ^ need 8 e.wid ∧ f.steps = e.steps + need 8 e.wid ∧ f.wid = e.wid * 2 ^ need 8 e.wid ∧ f.st = e.st := by
  obtain ⟨n1, n2, n3, n4, n5, n6⟩ := Enc.fit_norm 8 e h hw
  rw [hf]
  exact ⟨⟨n1, by rw [n4]; exact need_wide 8 e.wid hw, n6.trans ho⟩, n2, n3, n4, n5⟩
theorem Enc.live_bin (e : Enc) (c : Nat) (b : Int) (h : e.Live) (hc : c < e.st.length) (hb : b = 0 ∨ b = 1) :
    (e.bin c b).Live ∧ (e.bin c b).st.length = e.st.length ∧ ∃ n, (e.bin c b).steps = e.steps + n ∧ e.exact * 2 ^ n ≤ (e.bin c b).exact ∧ (e.bin c b).exact + (e.bin c b).wid ≤ (e.exact + e.wid) * 2 ^ n := by
  obtain ⟨f1, f2, f3⟩ := e.fit_narrow c b h
  have hsame := e.narrow_same c b
  have hok := e.ok_narrow c b h.fit.ok h.wide
  obtain ⟨n1, n2, n3, n4, n5⟩ := Enc.live_norm f1 hok.2.2 (hsame.2.1.trans h.going) (e.bin_is c b h hc hb)
  have hp : (0 : Int) ≤ 2 ^ need 8 (e.narrow c b).wid := by have := two_pos (need 8 (e.narrow c b).wid); omega
  refine ⟨n1, ?_, need 8 (e.narrow c b).wid, by omega, ?_, ?_⟩
  · rw [n5]; unfold Enc.narrow; dsimp only; split <;> simp
  · rw [n2]; exact Int.mul_le_mul_of_nonneg_right f2 hp
  · rw [n2, n4, ← Int.add_mul]; exact Int.mul_le_mul_of_nonneg_right f3 hp

theorem Dec.has_of (d : Dec) (n K : Nat) (h1 : d.pos + n ≤ 9 + K) (h2 : 9 + K ≤ 8 * d.s.size) : d.has n = true := by unfold Dec.has; simp; omega
/-- The decoder widens as the encoder did. -/
theorem Enc.meets_norm {e f : Enc} {d : Dec} (K : Nat) (hf1 : f.exact = e.exact * 2 ^ need 8 e.wid) (hf2 : f.steps = e.steps + need 8 e.wid) (hf3 : f.wid = e.wid * 2 ^ need 8 e.wid)
    (hpos : d.pos = 9 + e.steps) (o : Int) (ho : o = readTo d.s 0 (9 + e.steps) - e.exact) (hin : f.steps ≤ K) (hsz : 9 + K ≤ 8 * d.s.size) :
    d.has (need 8 e.wid) = true ∧ (d.normal e.wid o).wid = f.wid ∧ (d.normal e.wid o).pos = 9 + f.steps ∧ (d.normal e.wid o).off = readTo d.s 0 (9 + f.steps) - f.exact := by
  refine ⟨d.has_of _ K (by omega) hsz, hf3.symm, by unfold Dec.normal; dsimp only; omega, ?_⟩
  unfold Dec.normal
  dsimp only
  rw [hf2, hf1, ← Nat.add_assoc, readTo_add, ho, Int.sub_mul, hpos, Nat.zero_add]
  omega
theorem Enc.meets_bin (e : Enc) (d : Dec) (c K : Nat) (b : Int) (h : e.Live) (hm : e.Meets d) (hc : c < e.st.length) (hb : b = 0 ∨ b = 1) (hin : (e.bin c b).In K (readTo d.s 0 (9 + K))) (hsz : 9 + K ≤ 8 * d.s.size) :
    ∃ d', d.bin c = (b, 0, d') ∧ (e.bin c b).Meets d' ∧ d'.s = d.s := by
  obtain ⟨f1, f2, f3⟩ := e.fit_narrow c b h
  obtain ⟨hl0, hl1, hy, hn⟩ := e.narrow_part c b h
  have hsame := e.narrow_same c b
  have hok := e.ok_narrow c b h.fit.ok h.wide
  have hst := h.fit.ok.st c
  obtain ⟨n1, n2, n3, n4, n5⟩ := Enc.live_norm f1 hok.2.2 (hsame.2.1.trans h.going) (e.bin_is c b h hc hb)
  have hin1 : (e.narrow c b).In K (readTo d.s 0 (9 + K)) := Enc.in_nest n3 (by rw [n2]; exact Int.le_refl _) (by rw [n2, n4, ← Int.add_mul]; exact Int.le_refl _) hin
  have hr := Enc.in_read hin1
  have hrK := (Enc.in_read hin).2.2
  rw [hsame.1] at hr
  have hcan : d.can c = true := by
    unfold Dec.can
    rw [hm.over, hm.st]
    simpa using hc
  have hlo : d.lessOf c = widthOf (e.st.getD c 0) (e.wid / 64 % 4) := by unfold Dec.lessOf; rw [hm.st, hm.wid]
  generalize hle : widthOf (e.st.getD c 0) (e.wid / 64 % 4) = less at *
  have hoff := hm.off
  have hsplit : d.split c = (b, (e.narrow c b).wid, readTo d.s 0 (9 + (e.narrow c b).steps) - (e.narrow c b).exact) ∧ (e.narrow c b).st = e.st.set c (nextOf (e.st.getD c 0) (b == e.st.getD c 0 % 2)) := by
    unfold Dec.split
    dsimp only
    rw [hlo, hm.st, hm.wid, hsame.1]
    by_cases hbs : b = e.st.getD c 0 % 2
    · obtain ⟨h1, h2, h3⟩ := hy hbs
      rw [if_neg (by omega), h3, h1, h2, hoff]
      exact ⟨by rw [hbs], by rw [show (b == e.st.getD c 0 % 2) = true by simpa using hbs]⟩
    · obtain ⟨h1, h2, h3⟩ := hn hbs
      rw [if_pos (by omega), h3, h1, h2, hoff]
      refine ⟨?_, by rw [show (b == e.st.getD c 0 % 2) = false by simpa using hbs]⟩
      rw [show (1 - e.st.getD c 0 % 2 : Int) = b by omega, show (readTo d.s 0 (9 + e.steps) - e.exact - (e.wid - less) : Int) = readTo d.s 0 (9 + e.steps) - (e.exact + (e.wid - less)) by omega]
  obtain ⟨q1, q2, q3, q4⟩ := Enc.meets_norm (d := d) K n2 n3 n4 (by rw [hm.pos, hsame.1]) _ rfl hrK hsz
  refine ⟨{ d.normal (e.narrow c b).wid (readTo d.s 0 (9 + (e.narrow c b).steps) - (e.narrow c b).exact) with st := d.st.set c (nextOf (d.st.getD c 0) (b == d.st.getD c 0 % 2)) }, ?_, ⟨?_, q2, q3, q4, hm.over⟩, rfl⟩
  · unfold Dec.bin
    rw [if_pos hcan]
    dsimp only
    rw [Int.toNat_natCast, hsplit.1]
    dsimp only
    rw [if_pos q1]
  · show d.st.set c (nextOf (d.st.getD c 0) (b == d.st.getD c 0 % 2)) = _
    rw [n5, hsplit.2, hm.st]

theorem Enc.live_half (e : Enc) (b : Int) (h : e.Live) (hb : b = 0 ∨ b = 1) :
    (e.half b).Live ∧ (e.half b).st = e.st ∧ (e.half b).wid = e.wid ∧ (e.half b).steps = e.steps + 1 ∧ (e.half b).exact = 2 * e.exact + b * e.wid := by
  have hg := (e.good_half b hb h.good).1
  have htop := h.fit.top
  have hlo := h.fit.ok.low
  have hlt := h.fit.ok.top
  have hwd := h.wide
  have hbw : b * e.wid = 0 ∨ b * e.wid = e.wid := by rcases hb with rfl | rfl <;> simp
  have hall : (e.half b).st = e.st ∧ (e.half b).wid = e.wid ∧ (e.half b).steps = e.steps + 1 ∧ (e.half b).exact = 2 * e.exact + b * e.wid ∧ ((e.half b).begun = false → (e.half b).bits = []) ∧ (e.half b).over = e.over := by
    unfold Enc.half
    dsimp only
    generalize b * e.wid = bw at *
    by_cases c1 : 1024 ≤ 2 * e.low + bw
    · rw [if_pos c1]
      have hbg : e.begun = true := by
        cases hbg : e.begun
        · have := e.first_low h.fit.none htop hbg
          omega
        · rfl
      refine ⟨rfl, rfl, Enc.put_steps _ 1 h.fit.none, ?_, (fun hb => nomatch hb), rfl⟩
      rw [Enc.put_one { e with low := 2 * e.low + bw - 1024 } hbg]
      unfold Enc.exact
      dsimp only
      generalize valOf e.bits * 2 ^ e.outs = q at *
      generalize (2 : Int) ^ e.outs = p at *
      omega
    · rw [if_neg c1]
      by_cases c2 : 2 * e.low + bw < 512
      · rw [if_pos c2]
        refine ⟨rfl, rfl, Enc.put_steps _ 0 h.fit.none, ?_, (fun hb => nomatch hb), rfl⟩
        rw [Enc.put_zero { e with low := 2 * e.low + bw } h.fit.none]
        unfold Enc.exact
        dsimp only
        generalize valOf e.bits * 2 ^ e.outs = q at *
        generalize (2 : Int) ^ e.outs = p at *
        omega
      · rw [if_neg c2]
        refine ⟨rfl, rfl, by unfold Enc.steps; dsimp only; omega, ?_, h.fit.none, rfl⟩
        unfold Enc.exact
        dsimp only
        have e1 : valOf e.bits * 2 ^ (e.outs + 1) = 2 * (valOf e.bits * 2 ^ e.outs) := by rw [Int.pow_succ, ← Int.mul_assoc]; omega
        rw [e1, Int.pow_succ]
        generalize valOf e.bits * 2 ^ e.outs = q at *
        generalize (2 : Int) ^ e.outs = p at *
        omega
  obtain ⟨h1, h2, h3, h4, h5, h6⟩ := hall
  refine ⟨⟨⟨hg.ok, h5, ?_⟩, by omega, h6.trans h.going⟩, h1, h2, h3, h4⟩
  rw [h2, h3, h4, Int.pow_succ]
  omega
theorem Enc.bypass_is (e : Enc) (b : Int) (h : e.Live) (hb : b = 0 ∨ b = 1) : e.bypass b = e.half b := by
  have hcan : e.may b = true := by
    unfold Enc.may
    rw [h.going]
    rcases hb with rfl | rfl <;> simp
  unfold Enc.bypass
  rw [if_pos hcan]
theorem Enc.live_bypass (e : Enc) (b : Int) (h : e.Live) (hb : b = 0 ∨ b = 1) :
    (e.bypass b).Live ∧ (e.bypass b).st = e.st ∧ (e.bypass b).wid = e.wid ∧ (e.bypass b).steps = e.steps + 1 ∧ (e.bypass b).exact = 2 * e.exact + b * e.wid := by
  rw [e.bypass_is b h hb]; exact e.live_half b h hb
theorem Enc.nest_bypass (e : Enc) (b : Int) (h : e.Live) (hb : b = 0 ∨ b = 1) :
    (e.bypass b).steps = e.steps + 1 ∧ e.exact * 2 ^ 1 ≤ (e.bypass b).exact ∧ (e.bypass b).exact + (e.bypass b).wid ≤ (e.exact + e.wid) * 2 ^ 1 := by
  obtain ⟨-, -, h2, h3, h4⟩ := e.live_bypass b h hb
  have hwd := h.wide
  have hbw : b * e.wid = 0 ∨ b * e.wid = e.wid := by rcases hb with rfl | rfl <;> simp
  rw [h2, h3, h4]
  omega
theorem Enc.meets_bypass (e : Enc) (d : Dec) (K : Nat) (b : Int) (h : e.Live) (hm : e.Meets d) (hb : b = 0 ∨ b = 1) (hin : (e.bypass b).In K (readTo d.s 0 (9 + K))) (hsz : 9 + K ≤ 8 * d.s.size) :
    ∃ d', d.bypass = (b, 0, d') ∧ (e.bypass b).Meets d' ∧ d'.s = d.s := by
  obtain ⟨h0, h1, h2, h3, h4⟩ := e.live_bypass b h hb
  have hr := Enc.in_read hin
  have hwd := h.wide
  rw [h2, h3, h4] at hr
  have hh : d.has 1 = true := d.has_of 1 K (by have := hm.pos; omega) hsz
  have hr1 : readTo d.s 0 (9 + (e.steps + 1)) = 2 * readTo d.s 0 (9 + e.steps) + bitOf d.s d.pos := by rw [hm.pos]; show 2 * readTo d.s 0 (9 + e.steps) + bitOf d.s (0 + (9 + e.steps)) = _; rw [Nat.zero_add]
  have hoff := hm.off
  have hw := hm.wid
  refine ⟨{ d with off := 2 * d.off + bitOf d.s d.pos - b * d.wid, pos := d.pos + 1 }, ?_, ⟨hm.st.trans h1.symm, hw.trans h2.symm, ?_, ?_, hm.over⟩, rfl⟩
  · unfold Dec.bypass
    rw [hm.over, hh]
    simp only [Bool.false_eq_true, if_false, if_true]
    rcases hb with rfl | rfl
    · rw [if_neg (by omega)]; simp
    · rw [if_pos (by omega)]; simp
  · show d.pos + 1 = _
    rw [hm.pos, h3]; omega
  · show 2 * d.off + bitOf d.s d.pos - b * d.wid = _
    rw [h3, h4, hr1, hoff, hw]
    omega

theorem Enc.fit_last (e : Enc) (b : Int) (h : e.Live) (hb : b = 0 ∨ b = 1) :
    (e.last b).Fit ∧ (e.last b).steps = e.steps ∧ (e.last b).st = e.st ∧ (e.last b).over = false ∧ 256 ≤ (e.last b).wid * 2 ^ 8 ∧ (e.last b).wid = (if b = 1 then 2 else e.wid - 2) ∧ (e.last b).exact = e.exact + (if b = 1 then e.wid - 2 else 0) := by
  have hok := e.ok_last b h.good
  have htop := h.fit.top
  have hwd := h.wide
  rcases hb with rfl | rfl
  · refine ⟨⟨hok.1, h.fit.none, ?_⟩, rfl, rfl, h.going, hok.2.2, rfl, ?_⟩
    · show e.exact + (e.wid - 2) ≤ 510 * 2 ^ e.steps; omega
    · show e.exact = e.exact + 0; omega
  · have hx : (e.last 1).exact = e.exact + (e.wid - 2) := by
      show (e.low + (e.wid - 2)) + 512 * (2 ^ e.outs - 1) + 1024 * (valOf e.bits * 2 ^ e.outs) = e.low + 512 * (2 ^ e.outs - 1) + 1024 * (valOf e.bits * 2 ^ e.outs) + (e.wid - 2)
      omega
    refine ⟨⟨hok.1, h.fit.none, ?_⟩, rfl, rfl, h.going, hok.2.2, rfl, hx⟩
    rw [hx]
    show e.exact + (e.wid - 2) + 2 ≤ 510 * 2 ^ e.steps
    omega
theorem Enc.term_no (e : Enc) (h : e.Live) : e.term 0 = Enc.norm 8 (e.last 0) := by
  have hm : e.may 0 = true := by unfold Enc.may; rw [h.going]; rfl
  unfold Enc.term; rw [if_pos hm]; rfl
theorem Enc.term_yes (e : Enc) (h : e.Live) : e.term 1 = (Enc.norm 8 (e.last 1)).close := by
  have hm : e.may 1 = true := by unfold Enc.may; rw [h.going]; rfl
  unfold Enc.term; rw [if_pos hm]; rfl
theorem Enc.live_term (e : Enc) (h : e.Live) :
    (e.term 0).Live ∧ (e.term 0).st = e.st ∧ ∃ n, (e.term 0).steps = e.steps + n ∧ e.exact * 2 ^ n ≤ (e.term 0).exact ∧ (e.term 0).exact + (e.term 0).wid ≤ (e.exact + e.wid) * 2 ^ n := by
  obtain ⟨l1, l2, l3, l4, l5, l6, l7⟩ := e.fit_last 0 h (.inl rfl)
  rw [if_neg (by decide)] at l6 l7
  obtain ⟨n1, n2, n3, n4, n5⟩ := Enc.live_norm l1 l5 l4 (e.term_no h)
  rw [l7] at n2
  have hp : (0 : Int) ≤ 2 ^ need 8 (e.last 0).wid := by have := two_pos (need 8 (e.last 0).wid); omega
  refine ⟨n1, n5.trans l3, need 8 (e.last 0).wid, by omega, by rw [n2]; exact Int.mul_le_mul_of_nonneg_right (by omega) hp, ?_⟩
  rw [n2, n4, ← Int.add_mul]
  exact Int.mul_le_mul_of_nonneg_right (by omega) hp
theorem Enc.meets_term (e : Enc) (d : Dec) (K : Nat) (h : e.Live) (hm : e.Meets d) (hin : (e.term 0).In K (readTo d.s 0 (9 + K))) (hsz : 9 + K ≤ 8 * d.s.size) :
    ∃ d', d.term = (0, 0, d') ∧ (e.term 0).Meets d' ∧ d'.s = d.s := by
  obtain ⟨l1, l2, l3, l4, l5, l6, l7⟩ := e.fit_last 0 h (.inl rfl)
  rw [if_neg (by decide)] at l6 l7
  obtain ⟨n1, n2, n3, n4, n5⟩ := Enc.live_norm l1 l5 l4 (e.term_no h)
  have hin1 : (e.last 0).In K (readTo d.s 0 (9 + K)) := Enc.in_nest n3 (by rw [n2]; exact Int.le_refl _) (by rw [n2, n4, ← Int.add_mul]; exact Int.le_refl _) hin
  have hr := Enc.in_read hin1
  have hrK := (Enc.in_read hin).2.2
  rw [l2, l6, l7] at hr
  have hoff := hm.off
  have hw := hm.wid
  obtain ⟨q1, q2, q3, q4⟩ := Enc.meets_norm (d := d) K n2 n3 n4 (by rw [hm.pos, l2]) d.off (by rw [hoff, l2, l7]; omega) hrK hsz
  rw [l6, ← hw] at q1 q2 q3 q4
  refine ⟨d.normal (d.wid - 2) d.off, ?_, ⟨hm.st.trans (n5.trans l3).symm, q2, q3, q4, hm.over⟩, rfl⟩
  unfold Dec.term
  rw [hm.over]
  simp only [Bool.false_eq_true, if_false]
  rw [if_neg (by omega), if_pos q1]

/-- The end: what was written, as a number, lies in the interval's last part. -/
theorem Enc.end_bits (e : Enc) (h : e.Live) :
    (e.term 1).bits.length = 9 + e.steps ∧ (valOf (e.term 1).bits = e.exact + (e.wid - 2) ∨ valOf (e.term 1).bits = e.exact + (e.wid - 2) + 1) ∧ (e.term 1).st = e.st ∧ (∀ b ∈ (e.term 1).bits, b = 0 ∨ b = 1) := by
  obtain ⟨l1, l2, l3, l4, l5, l6, l7⟩ := e.fit_last 1 h (.inr rfl)
  rw [if_pos rfl] at l6 l7
  have hbits := (e.good_term 1 h.good).1.ok.bits
  rw [e.term_yes h] at hbits ⊢
  obtain ⟨f, hf⟩ : ∃ f, f = Enc.norm 8 (e.last 1) := ⟨_, rfl⟩
  obtain ⟨n1, n2, n3, n4, n5⟩ := Enc.live_norm l1 l5 l4 hf
  have h7 : need 8 (2 : Int) = 7 := by decide
  rw [l6, h7] at n2 n3 n4
  rw [l7] at n2
  rw [← hf] at hbits ⊢
  have hlo := n1.fit.ok.low
  have hlt := n1.fit.ok.top
  obtain ⟨p, hp, hpb⟩ : ∃ p : Int, f.low / 512 % 2 = p ∧ (p = 0 ∨ p = 1) := ⟨_, rfl, by omega⟩
  have hst : (f.put p).steps = f.steps + 1 := f.put_steps p n1.fit.none
  have hlen : (f.put p).bits.length = f.steps := by
    have h1 : (f.put p).steps = 0 + ((f.put p).bits.length + 1) := rfl
    omega
  have hval : 512 * valOf (f.put p).bits + f.low % 512 = f.exact := by
    have hx : (f.put p).exact = f.low + 1024 * valOf (f.put p).bits := by
      show f.low + 512 * (2 ^ 0 - 1) + 1024 * (valOf (f.put p).bits * 2 ^ 0) = _
      omega
    have htop := n1.fit.top
    have hwd := n1.fit.ok.wid0
    rcases hpb with rfl | rfl
    · have h1 := f.put_zero n1.fit.none
      rw [hx] at h1
      unfold Enc.exact
      generalize valOf f.bits * 2 ^ f.outs = q at *
      generalize (2 : Int) ^ f.outs = r at *
      omega
    · have hbg : f.begun = true := by
        cases hbg : f.begun
        · have := f.first_low n1.fit.none htop hbg
          omega
        · rfl
      have h1 := f.put_one hbg
      rw [hx] at h1
      unfold Enc.exact
      generalize valOf f.bits * 2 ^ f.outs = q at *
      generalize (2 : Int) ^ f.outs = r at *
      omega
  have hcb : f.close.bits = (f.put p).bits ++ [f.low / 256 % 2] ++ [1] := by unfold Enc.close; rw [hp]; rfl
  refine ⟨?_, ?_, (show f.close.st = f.st from rfl).trans (n5.trans l3), hbits⟩
  · rw [hcb]; simp; omega
  · rw [hcb, valOf_snoc, valOf_snoc]
    have e1 : f.exact = 128 * (e.exact + (e.wid - 2)) := by rw [n2]; omega
    omega
end Go.Proofs.YtibojidpifgblaaDoor
