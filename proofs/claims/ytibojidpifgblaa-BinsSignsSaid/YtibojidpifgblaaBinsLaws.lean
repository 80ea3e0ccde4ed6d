/-
  Plain Lean: lengths of elements' bins, and that they tell numbers apart. No program is named.
-/
import Derived.Test.YtibojidpifgblaaBinsSpec
namespace Go.Proofs.Ytibojidpifgblaa

theorem strOfNums_inj {xs ys : List Int} (hx : ∀ x ∈ xs, 0 ≤ x ∧ x < 256) (hy : ∀ x ∈ ys, 0 ≤ x ∧ x < 256) (h : strOfNums xs = strOfNums ys) : xs = ys := by
  have h1 : xs.map (fun n => UInt8.ofNat n.toNat) = ys.map (fun n => UInt8.ofNat n.toNat) := by
    have := congrArg (fun s : ByteArray => s.data.toList) h
    simpa [strOfNums_data] using this
  clear h
  induction xs generalizing ys with
  | nil => cases ys with
    | nil => rfl
    | cons y ys => simp at h1
  | cons x xs ih => cases ys with
    | nil => simp at h1
    | cons y ys =>
      simp only [List.map_cons, List.cons.injEq] at h1
      obtain ⟨h2, h3⟩ := h1
      have e1 := hx x (by simp)
      have e2 := hy y (by simp)
      have e3 := congrArg UInt8.toNat h2
      simp only [UInt8.toNat_ofNat'] at e3
      have e4 : x.toNat % 2 ^ 8 = x.toNat := Nat.mod_eq_of_lt (by omega)
      have e5 : y.toNat % 2 ^ 8 = y.toNat := Nat.mod_eq_of_lt (by omega)
      rw [e4, e5] at e3
      rw [ih (fun z hz => hx z (by simp [hz])) (fun z hz => hy z (by simp [hz])) h3, show x = y by omega]

theorem lowL_range (x i : Nat) : ∀ b ∈ lowL x i, (0 : Int) ≤ b ∧ b < 256 := by
  induction i with
  | zero => simp [lowL]
  | succ i ih =>
    intro b hb
    simp only [lowL, List.mem_cons] at hb
    rcases hb with rfl | hb
    · omega
    · exact ih b hb
theorem tailL_range (f x k : Nat) : ∀ b ∈ tailL f x k, (0 : Int) ≤ b ∧ b < 256 := by
  induction f generalizing x k with
  | zero => simp [tailL]
  | succ f ih =>
    intro b hb
    unfold tailL at hb
    split at hb
    · rcases List.mem_cons.1 hb with rfl | hb
      · omega
      · exact ih _ _ b hb
    · rcases List.mem_cons.1 hb with rfl | hb
      · omega
      · exact lowL_range _ _ b hb
theorem onesL_range (n l : Nat) : ∀ b ∈ onesL n l, (0 : Int) ≤ b ∧ b < 256 := by
  intro b hb
  unfold onesL at hb
  rcases List.mem_append.1 hb with h | h
  · rw [List.eq_of_mem_replicate h]; omega
  · split at h
    · simp at h; omega
    · simp at h
theorem greatL_range (v o k : Nat) : ∀ b ∈ greatL v o k, (0 : Int) ≤ b ∧ b < 256 := by
  intro b hb
  unfold greatL at hb
  rcases List.mem_append.1 hb with h | h
  · exact onesL_range _ _ b h
  · split at h
    · exact tailL_range _ _ _ b h
    · simp at h
theorem signL_range (v : Int) : ∀ b ∈ signL v, (0 : Int) ≤ b ∧ b < 256 := by
  intro b hb
  unfold signL at hb
  split at hb
  · simp at hb; omega
  · split at hb
    · simp at hb; omega
    · simp at hb

theorem tailL_min (f x k : Nat) (h : x + 2 ^ k < 2 ^ (k + f)) : k + 1 ≤ (tailL f x k).length := by
  induction f generalizing x k with
  | zero => simp at h; omega
  | succ f ih =>
    unfold tailL
    split
    · have := ih (x - 2 ^ k) (k + 1) (by rw [show k + 1 + f = k + (f + 1) by omega, Nat.pow_succ 2 k]; omega)
      simp; omega
    · simp [lowL_length]
theorem tailL_mono (f x y k : Nat) (hxy : x ≤ y) (h : y + 2 ^ k < 2 ^ (k + f)) : (tailL f x k).length ≤ (tailL f y k).length := by
  induction f generalizing x y k with
  | zero => simp at h; omega
  | succ f ih =>
    have h' : 2 ^ (k + 1) = 2 * 2 ^ k := by rw [Nat.pow_succ]; omega
    have h2 : y - 2 ^ k + 2 ^ (k + 1) < 2 ^ (k + 1 + f) ∨ ¬ 2 ^ k ≤ y := by
      rw [show k + 1 + f = k + (f + 1) by omega]
      omega
    unfold tailL
    by_cases hx : 2 ^ k ≤ x
    · rw [if_pos hx, if_pos (by omega)]
      have := ih (x - 2 ^ k) (y - 2 ^ k) (k + 1) (by omega) (by omega)
      simpa using this
    · rw [if_neg hx]
      by_cases hy : 2 ^ k ≤ y
      · rw [if_pos hy]
        have := tailL_min f (y - 2 ^ k) (k + 1) (by omega)
        simp [lowL_length]; omega
      · rw [if_neg hy]; simp [lowL_length]
theorem greatL_mono (v u own k : Nat) (h : v ≤ u) (hu : u - own + 2 ^ k < 2 ^ (k + 18)) : (greatL v own k).length ≤ (greatL u own k).length := by
  have h1 := onesL_length (min v own) own (by omega)
  have h2 := onesL_length (min u own) own (by omega)
  unfold greatL
  rw [List.length_append, List.length_append, h1, h2]
  by_cases hv : own ≤ v
  · rw [if_pos hv, if_pos (by omega)]
    have := tailL_mono 18 (v - own) (u - own) k (by omega) hu
    omega
  · rw [if_neg hv]
    simp
    omega

theorem lowL_inj (x y i : Nat) (h : lowL x i = lowL y i) : x % 2 ^ i = y % 2 ^ i := by
  induction i with
  | zero => simp [Nat.mod_one]
  | succ i ih =>
    simp only [lowL, List.cons.injEq] at h
    have h1 : x / 2 ^ i % 2 = y / 2 ^ i % 2 := by omega
    rw [Nat.mod_pow_succ, Nat.mod_pow_succ, ih h.2, h1]
theorem tailL_inj (f x y k : Nat) (hx : x + 2 ^ k < 2 ^ (k + f)) (hy : y + 2 ^ k < 2 ^ (k + f)) (h : tailL f x k = tailL f y k) : x = y := by
  induction f generalizing x y k with
  | zero => simp at hx; omega
  | succ f ih =>
    have h' : 2 ^ (k + 1) = 2 * 2 ^ k := by rw [Nat.pow_succ]; omega
    have hp : 2 ^ (k + 1 + f) = 2 ^ (k + (f + 1)) := by rw [show k + 1 + f = k + (f + 1) by omega]
    unfold tailL at h
    by_cases h1 : 2 ^ k ≤ x <;> by_cases h2 : 2 ^ k ≤ y
    · rw [if_pos h1, if_pos h2] at h
      have := ih (x - 2 ^ k) (y - 2 ^ k) (k + 1) (by omega) (by omega) (List.cons.inj h).2
      omega
    · rw [if_pos h1, if_neg h2] at h
      have := (List.cons.inj h).1
      omega
    · rw [if_neg h1, if_pos h2] at h
      have := (List.cons.inj h).1
      omega
    · rw [if_neg h1, if_neg h2] at h
      have := lowL_inj x y k (List.cons.inj h).2
      rw [Nat.mod_eq_of_lt (by omega), Nat.mod_eq_of_lt (by omega)] at this
      exact this
theorem greatL_inj (v u own k : Nat) (hv : v - own + 2 ^ k < 2 ^ (k + 18)) (hu : u - own + 2 ^ k < 2 ^ (k + 18)) (h : greatL v own k = greatL u own k) : v = u := by
  unfold greatL onesL at h
  by_cases h1 : own ≤ v <;> by_cases h2 : own ≤ u
  · rw [if_pos h1, if_pos h2, Nat.min_eq_right h1, Nat.min_eq_right h2] at h
    have := tailL_inj 18 _ _ k hv hu (List.append_cancel_left h)
    omega
  · rw [if_pos h1, if_neg h2, Nat.min_eq_right h1, Nat.min_eq_left (by omega), if_neg (Nat.lt_irrefl _), if_pos (by omega)] at h
    have e := congrArg (fun l : List Int => l[u]?) h
    simp [List.getElem?_append, show u < own by omega] at e
  · rw [if_neg h1, if_pos h2, Nat.min_eq_right h2, Nat.min_eq_left (by omega), if_neg (Nat.lt_irrefl own), if_pos (by omega)] at h
    have e := congrArg (fun l : List Int => l[v]?) h
    simp [List.getElem?_append, show v < own by omega] at e
  · rw [if_neg h1, if_neg h2, Nat.min_eq_left (by omega), Nat.min_eq_left (by omega), if_pos (by omega), if_pos (by omega)] at h
    have := congrArg List.length h
    simpa using this

/-- BinsGrow's plain law. -/
theorem grow_one (k : Nat) (hk : k ≤ 32766) : (bitsL 17 k 0).length ≤ (bitsL 17 (k + 1 : Nat) 0).length ∧ strOfNums (bitsL 17 k 0) ≠ strOfNums (bitsL 17 (k + 1 : Nat) 0) ∧ bitsE 17 k 0 = 0 ∧ bitsE 17 (k + 1 : Nat) 0 = 0 := by
  have hm : ∀ n : Nat, n ≤ 32767 → mayOf (kindOf 17) n 0 = true := by
    intro n hn
    rw [show kindOf 17 = 4 by decide]
    unfold mayOf
    simp
    omega
  have hb : ∀ n : Nat, n ≤ 32767 → bitsL 17 n 0 = greatL n 14 0 := by
    intro n hn
    unfold bitsL
    rw [if_pos (hm n hn), show kindOf 17 = 4 by decide]
    show greatL (n : Int).natAbs 14 0 = _
    rw [Int.natAbs_natCast]
  rw [hb k (by omega), hb (k + 1) (by omega)]
  refine ⟨greatL_mono _ _ _ _ (by omega) (by omega), ?_, by simp [bitsE, hm k (by omega)], by unfold bitsE; rw [if_pos (hm (k + 1) (by omega))]⟩
  intro h
  have := greatL_inj _ _ _ _ (by omega) (by omega) (strOfNums_inj (greatL_range _ _ _) (greatL_range _ _ _) h)
  omega
theorem grow_mvd (k : Nat) (hk : k ≤ 32766) : (bitsL 9 k 0).length ≤ (bitsL 9 (k + 1 : Nat) 0).length ∧ strOfNums (bitsL 9 k 0) ≠ strOfNums (bitsL 9 (k + 1 : Nat) 0) ∧ bitsE 9 k 0 = 0 ∧ bitsE 9 (k + 1 : Nat) 0 = 0 := by
  have hm : ∀ n : Nat, n ≤ 32767 → mayOf (kindOf 9) n 0 = true := by
    intro n hn
    rw [show kindOf 9 = 3 by decide]
    unfold mayOf
    simp
    omega
  have hb : ∀ n : Nat, n ≤ 32767 → bitsL 9 n 0 = greatL n 9 3 ++ signL n := by
    intro n hn
    unfold bitsL
    rw [if_pos (hm n hn), show kindOf 9 = 3 by decide]
    show greatL (n : Int).natAbs 9 3 ++ _ = _
    rw [Int.natAbs_natCast]
  have hs : ∀ n : Nat, signL (n + 1 : Nat) = [97] := by intro n; unfold signL; rw [if_pos (by omega)]
  rw [hb k (by omega), hb (k + 1) (by omega), hs k]
  refine ⟨?_, ?_, by simp [bitsE, hm k (by omega)], by unfold bitsE; rw [if_pos (hm (k + 1) (by omega))]⟩
  · have h1 := greatL_mono k (k + 1) 9 3 (by omega) (by omega)
    have h2 : (signL (k : Int)).length ≤ 1 := by unfold signL; split; simp; split <;> simp
    simp only [List.length_append, List.length_singleton]
    omega
  · intro h
    have h3 := strOfNums_inj (by
      intro x hx
      rcases List.mem_append.1 hx with g | g
      · exact greatL_range _ _ _ x g
      · exact signL_range _ x g) (by
      intro x hx
      rcases List.mem_append.1 hx with g | g
      · exact greatL_range _ _ _ x g
      · simp at g; omega) h
    rcases Nat.eq_zero_or_pos k with rfl | hk0
    · exact absurd h3 (by decide)
    · obtain ⟨j, rfl⟩ : ∃ j, k = j + 1 := ⟨k - 1, by omega⟩
      rw [hs j] at h3
      have := greatL_inj _ _ _ _ (by omega) (by omega) (List.append_cancel_right h3)
      omega
end Go.Proofs.Ytibojidpifgblaa
