/-
  Plain Lean: an element's bins written by an encoder, letter by letter; the same as a list of acts. No program is named. Plain Lean: a block of coefficients as a list of acts. No program is named. Plain Lean: which blocks may be; their acts fit; how many they are. No program is named.
-/
import Derived.Test.YtcppbdlmcbjmeaaGreatDoorJ03
import Derived.Test.YtcppbdlmcbjmeaaGreatDoorJ04
namespace Go.Proofs.YtcppbdlmcbjmeaaGreatDoor

/-- A letter of an element's bins. -/
def isLetter (c : Int) : Prop := c = 48 ∨ c = 49 ∨ c = 97 ∨ c = 98
theorem lowL_letter (x i : Nat) : ∀ c ∈ lowL x i, isLetter c := by
  induction i with
  | zero => intro c h; cases h
  | succ i ih =>
    intro c h
    simp only [lowL, List.mem_cons] at h
    rcases h with rfl | h
    · unfold isLetter; omega
    · exact ih c h
theorem tailL_letter (f x k : Nat) : ∀ c ∈ tailL f x k, isLetter c := by
  induction f generalizing x k with
  | zero => intro c h; cases h
  | succ f ih =>
    intro c h
    unfold tailL at h
    split at h
    · rcases List.mem_cons.1 h with rfl | h
      · unfold isLetter; omega
      · exact ih _ _ c h
    · rcases List.mem_cons.1 h with rfl | h
      · unfold isLetter; omega
      · exact lowL_letter _ _ c h
theorem onesL_letter (n l : Nat) : ∀ c ∈ onesL n l, isLetter c := by
  intro c h
  unfold onesL at h
  rcases List.mem_append.1 h with h | h
  · obtain ⟨_, rfl⟩ := List.mem_replicate.1 h; unfold isLetter; omega
  · split at h
    · simp at h; subst h; unfold isLetter; omega
    · cases h
theorem greatL_letter (v o k : Nat) : ∀ c ∈ greatL v o k, isLetter c := by
  intro c h
  unfold greatL at h
  rcases List.mem_append.1 h with h | h
  · exact onesL_letter _ _ c h
  · split at h
    · exact tailL_letter _ _ _ c h
    · cases h
theorem signL_letter (v : Int) : ∀ c ∈ signL v, isLetter c := by
  intro c h
  unfold signL at h
  split at h
  · simp at h; subst h; unfold isLetter; omega
  · split at h
    · simp at h; subst h; unfold isLetter; omega
    · cases h
theorem bitsL_letter (el v most : Int) : ∀ c ∈ bitsL el v most, isLetter c := by
  intro c h
  unfold bitsL at h
  split at h
  · rename_i hm
    unfold rawL at h
    split at h
    · rename_i hk
      rw [hk] at hm
      simp only [mayOf, if_true, decide_eq_true_eq] at hm
      simp at h; subst h; unfold isLetter; omega
    · split at h
      · exact onesL_letter _ _ c h
      · split at h
        · rcases List.mem_append.1 h with h | h
          · exact greatL_letter _ _ _ c h
          · exact signL_letter _ c h
        · exact greatL_letter _ _ _ c h
  · cases h
theorem bitsL_length (el v most : Int) : (bitsL el v most).length ≤ 100 := by
  unfold bitsL
  split
  · rename_i hm
    unfold rawL
    split
    · simp
    · rename_i h1
      split
      · rename_i h2
        rw [h2] at hm
        simp only [mayOf, show ¬ ((2 : Int) = 1) by omega, if_false, if_true, decide_eq_true_eq] at hm
        rw [onesL_length _ _ (by omega)]
        omega
      · split
        · rw [List.length_append]
          have h3 := greatL_length v.natAbs 9 3
          have h4 : (signL v).length ≤ 1 := by unfold signL; split; simp; split <;> simp
          omega
        · have h3 := greatL_length v.natAbs 14 0
          omega
  · simp

/-- The context of an element's n-th bin. -/
def ctxAt (el inc : Int) (n : Nat) : Int := 8 * el + min (inc + n) 7
/-- One letter: whether it was taken, the encoder, the next context's number. -/
def Enc.letter (e : Enc) (el inc : Int) (n : Nat) (c : Int) : Bool × Enc × Nat :=
  if 97 ≤ c then (e.may (c - 97), e.bypass (c - 97), n) else (e.canBin (ctxAt el inc n) (c - 48), e.bin (ctxAt el inc n) (c - 48), n + 1)
def Enc.letters (el inc : Int) : Enc → Nat → List Int → Bool × Enc
  | e, _, [] => (true, e)
  | e, n, c :: cs => if (e.letter el inc n c).1 then Enc.letters el inc (e.letter el inc n c).2.1 (e.letter el inc n c).2.2 cs else (false, (e.letter el inc n c).2.1)
/-- What Put answers. -/
def putCode (ok : Bool) : Int := if ok then 0 else 601
/-- What Put answers, and the encoder behind it. -/
def Enc.elem (e : Enc) (el inc v most : Int) : Int × Enc :=
  if bitsE el v most = 0 ∧ 0 ≤ inc ∧ inc ≤ 7 then (putCode (Enc.letters el inc e 0 (bitsL el v most)).1, (Enc.letters el inc e 0 (bitsL el v most)).2) else (600, e)

theorem Enc.good_letter (e : Enc) (el inc : Int) (n : Nat) (c : Int) (h : e.Good) : (e.letter el inc n c).2.1.Good ∧ (e.letter el inc n c).2.1.cost ≤ e.cost + 8 := by
  unfold Enc.letter
  split
  · have := e.good_bypass (c - 97) h
    exact ⟨this.1, by show (e.bypass (c - 97)).cost ≤ _; omega⟩
  · exact e.good_bin (ctxAt el inc n) (c - 48) h
theorem Enc.good_letters (el inc : Int) (cs : List Int) : ∀ (e : Enc) (n : Nat), e.Good → (Enc.letters el inc e n cs).2.Good ∧ (Enc.letters el inc e n cs).2.cost ≤ e.cost + 8 * cs.length := by
  induction cs with
  | nil => intro e n h; exact ⟨h, by show e.cost ≤ _; omega⟩
  | cons c cs ih =>
    intro e n h
    have h1 := e.good_letter el inc n c h
    unfold Enc.letters
    split
    · have h2 := ih (e.letter el inc n c).2.1 (e.letter el inc n c).2.2 h1.1
      refine ⟨h2.1, ?_⟩
      simp only [List.length_cons]
      omega
    · refine ⟨h1.1, ?_⟩
      simp only [List.length_cons]
      omega
theorem Enc.good_elem (e : Enc) (el inc v most : Int) (h : e.Good) : (e.elem el inc v most).2.Good ∧ (e.elem el inc v most).2.cost ≤ e.cost + 800 := by
  unfold Enc.elem
  split
  · have h1 := Enc.good_letters el inc (bitsL el v most) e 0 h
    have h2 := bitsL_length el v most
    exact ⟨h1.1, by dsimp only; omega⟩
  · exact ⟨h, by dsimp only; omega⟩

/-- The same as a list of acts. -/
def deedAt (el inc : Int) (n : Nat) (c : Int) : Deed := if 97 ≤ c then .byp (c - 97) else .bin (ctxAt el inc n).toNat (c - 48)
def deedsL (el inc : Int) : Nat → List Int → List Deed
  | _, [] => []
  | n, c :: cs => deedAt el inc n c :: deedsL el inc (if 97 ≤ c then n else n + 1) cs
theorem deedsL_length (el inc : Int) (cs : List Int) : ∀ n, (deedsL el inc n cs).length = cs.length := by
  induction cs with
  | nil => intro n; rfl
  | cons c cs ih => intro n; simp [deedsL, ih]
theorem ctxAt_range (el inc : Int) (n : Nat) (h0 : 0 ≤ el) (h1 : el ≤ 19) (h2 : 0 ≤ inc) : 0 ≤ ctxAt el inc n ∧ ctxAt el inc n < 160 := by unfold ctxAt; omega
theorem deedsL_fits (el inc : Int) (cs : List Int) (h0 : 0 ≤ el) (h1 : el ≤ 19) (h2 : 0 ≤ inc) : ∀ n, (∀ c ∈ cs, isLetter c) → ∀ o ∈ deedsL el inc n cs, o.fits 256 := by
  induction cs with
  | nil => intro n _ o h; cases h
  | cons c cs ih =>
    intro n hc o h
    simp only [deedsL, List.mem_cons] at h
    rcases h with rfl | h
    · have hl := hc c (by simp)
      unfold deedAt
      unfold isLetter at hl
      split
      · show c - 97 = 0 ∨ c - 97 = 1; omega
      · have := ctxAt_range el inc n h0 h1 h2
        exact ⟨by omega, by omega⟩
    · exact ih _ (fun c hc' => hc c (by simp [hc'])) o h
theorem Enc.letters_live (el inc : Int) (h0 : 0 ≤ el) (h1 : el ≤ 19) (h2 : 0 ≤ inc) (cs : List Int) : ∀ (e : Enc) (n : Nat), e.Live → e.st.length = 256 → (∀ c ∈ cs, isLetter c) → Enc.letters el inc e n cs = (true, e.run (deedsL el inc n cs)) := by
  induction cs with
  | nil => intro e n _ _ _; rfl
  | cons c cs ih =>
    intro e n hl hst hc
    have hcl := hc c (by simp)
    have hf : (deedAt el inc n c).fits e.st.length := by
      rw [hst]
      exact deedsL_fits el inc (c :: cs) h0 h1 h2 n hc _ (by simp [deedsL])
    obtain ⟨l1, l2, -, -⟩ := e.live_deed _ hl hf
    have key : e.letter el inc n c = (true, e.deed (deedAt el inc n c), if 97 ≤ c then n else n + 1) := by
      unfold isLetter at hcl
      have hov : e.over = false := hl.going
      unfold Enc.letter deedAt
      split
      · have : e.may (c - 97) = true := by
          unfold Enc.may
          rw [hov]
          simp
          omega
        rw [this]
        rfl
      · have hr := ctxAt_range el inc n h0 h1 h2
        have : e.canBin (ctxAt el inc n) (c - 48) = true := by
          unfold Enc.canBin Enc.may
          rw [hov, hst]
          simp
          omega
        rw [this]
        simp only [Enc.deed]
        rw [Int.toNat_of_nonneg hr.1]
    unfold Enc.letters
    rw [key]
    simp only [if_true]
    rw [ih _ _ l1 (by rw [l2, hst]) (fun c hc' => hc c (by simp [hc']))]
    rfl
theorem kindOf_el (el : Int) (h : kindOf el ≠ 0) : 0 ≤ el ∧ el ≤ 19 := by
  unfold kindOf at h
  split at h
  · exact absurd rfl h
  · refine ⟨by omega, ?_⟩
    rcases Nat.lt_or_ge el.toNat 20 with g | g
    · omega
    · have : kindTab[el.toNat]? = none := List.getElem?_eq_none (by simpa [kindTab] using g)
      simp [List.getD, this] at h
theorem bitsE_el (el v most : Int) (h : bitsE el v most = 0) : 0 ≤ el ∧ el ≤ 19 ∧ mayOf (kindOf el) v most = true := by
  unfold bitsE at h
  split at h
  · rename_i hm
    have hk : kindOf el ≠ 0 := by
      intro hk
      rw [hk] at hm
      revert hm
      simp [mayOf]
    have := kindOf_el el hk
    exact ⟨this.1, this.2, hm⟩
  · omega
/-- An element that may be is written, as a list of acts. -/
def elemDeeds (el inc v most : Int) : List Deed := deedsL el inc 0 (bitsL el v most)
theorem Enc.elem_live (e : Enc) (el inc v most : Int) (h : e.Live) (hst : e.st.length = 256) :
    e.elem el inc v most = if bitsE el v most = 0 ∧ 0 ≤ inc ∧ inc ≤ 7 then (0, e.run (elemDeeds el inc v most)) else (600, e) := by
  unfold Enc.elem
  split
  · rename_i hc
    obtain ⟨h0, h1, -⟩ := bitsE_el el v most hc.1
    rw [Enc.letters_live el inc h0 h1 hc.2.1 _ e 0 h hst (bitsL_letter el v most)]
    rfl
  · rfl
end Go.Proofs.YtcppbdlmcbjmeaaGreatDoor

/-
  Plain Lean: a decoder that gives a list of acts; an element's bins as it gives them. No program is named.
-/
namespace Go.Proofs.YtcppbdlmcbjmeaaGreatDoor

/-- The decoder gives these acts, one behind the other, and stands at d' then. -/
def Dec.gives : Dec → List Deed → Dec → Prop
  | d, [], d' => d' = d
  | d, o :: os, d' => ∃ d1, d.deed o = (o.bit, 0, d1) ∧ d1.s = d.s ∧ Dec.gives d1 os d'
theorem Dec.gives_s (os : List Deed) : ∀ d d' : Dec, d.gives os d' → d'.s = d.s := by
  induction os with
  | nil => intro d d' h; rw [show d' = d from h]
  | cons o os ih =>
    intro d d' h
    obtain ⟨d1, -, h2, h3⟩ := h
    exact (ih d1 d' h3).trans h2
theorem Dec.gives_append (a b : List Deed) : ∀ d d' : Dec, d.gives (a ++ b) d' → ∃ d1, d.gives a d1 ∧ d1.gives b d' := by
  induction a with
  | nil => intro d d' h; exact ⟨d, rfl, h⟩
  | cons o a ih =>
    intro d d' h
    obtain ⟨d1, h1, h2, h3⟩ := h
    obtain ⟨d2, g1, g2⟩ := ih d1 d' h3
    exact ⟨d2, ⟨d1, h1, h2, g1⟩, g2⟩
theorem Read.text_s {xs : List Int} {ops : List Deed} {j : Nat} {d : Dec} (h : Read xs ops j d) : d.s = ((Enc.new xs).run ops).text := h.text
theorem Read.gives (xs : List Int) (ops os : List Deed) (hf : ∀ o ∈ ops, o.fits xs.length) : ∀ (j : Nat) (d : Dec) (rest : List Deed), Read xs ops j d → ops.drop j = os ++ rest → ∃ d', d.gives os d' ∧ Read xs ops (j + os.length) d' := by
  induction os with
  | nil => intro j d rest h _; exact ⟨d, rfl, h⟩
  | cons o os ih =>
    intro j d rest h hd
    have ho : ops[j]? = some o := by
      have := congrArg (fun l => l[0]?) hd
      simpa using this
    obtain ⟨d1, h1, h2⟩ := Read.step xs ops j d hf h o ho
    have hd2 : ops.drop (j + 1) = os ++ rest := by
      have := congrArg (fun l => l.drop 1) hd
      simpa [List.drop_drop] using this
    obtain ⟨d', g1, g2⟩ := ih (j + 1) d1 rest h2 hd2
    refine ⟨d', ⟨d1, h1, h2.text.trans h.text.symm, g1⟩, ?_⟩
    rw [List.length_cons, show j + (os.length + 1) = j + 1 + os.length by omega]
    exact g2

/-- The ones of a unary part. -/
theorem onesL_succ (v l : Nat) : onesL (v + 1) (l + 1) = 49 :: onesL v l := by
  unfold onesL
  by_cases h : v < l
  · rw [if_pos h, if_pos (by omega)]; simp [List.replicate_succ]
  · rw [if_neg h, if_neg (by omega)]; simp [List.replicate_succ]
theorem deedsL_append (el inc : Int) (a b : List Int) : ∀ n, ∃ m, deedsL el inc n (a ++ b) = deedsL el inc n a ++ deedsL el inc m b := by
  induction a with
  | nil => intro n; exact ⟨n, rfl⟩
  | cons c a ih =>
    intro n
    obtain ⟨m, h⟩ := ih (if 97 ≤ c then n else n + 1)
    exact ⟨m, by simp [deedsL, h]⟩
/-- A one: a bin of 1 with the n-th context. -/
theorem gives_one {d d' : Dec} {el inc : Int} {n : Nat} {cs : List Int} (hr : 0 ≤ ctxAt el inc n) (h : d.gives (deedsL el inc n (49 :: cs)) d') :
    ∃ d1, d.bin (ctxAt el inc n) = (1, 0, d1) ∧ d1.s = d.s ∧ d1.gives (deedsL el inc (n + 1) cs) d' := by
  obtain ⟨d1, h1, h2, h3⟩ := h
  refine ⟨d1, ?_, h2, h3⟩
  have := h1
  simp only [deedAt, show ¬ ((97 : Int) ≤ 49) by omega, if_false, Dec.deed, Deed.bit] at this
  rw [Int.toNat_of_nonneg hr] at this
  exact this
theorem gives_nought {d d' : Dec} {el inc : Int} {n : Nat} {cs : List Int} (hr : 0 ≤ ctxAt el inc n) (h : d.gives (deedsL el inc n (48 :: cs)) d') :
    ∃ d1, d.bin (ctxAt el inc n) = (0, 0, d1) ∧ d1.s = d.s ∧ d1.gives (deedsL el inc (n + 1) cs) d' := by
  obtain ⟨d1, h1, h2, h3⟩ := h
  refine ⟨d1, ?_, h2, h3⟩
  have := h1
  simp only [deedAt, show ¬ ((97 : Int) ≤ 48) by omega, if_false, Dec.deed, Deed.bit] at this
  rw [Int.toNat_of_nonneg hr] at this
  exact this
theorem gives_flag {d d' : Dec} {el inc : Int} {n : Nat} {v : Int} {cs : List Int} (hv : v = 0 ∨ v = 1) (hr : 0 ≤ ctxAt el inc n) (h : d.gives (deedsL el inc n ((48 + v) :: cs)) d') :
    ∃ d1, d.bin (ctxAt el inc n) = (v, 0, d1) ∧ d1.s = d.s ∧ d1.gives (deedsL el inc (n + 1) cs) d' := by
  rcases hv with rfl | rfl
  · exact gives_nought hr h
  · exact gives_one hr h
theorem gives_by {d d' : Dec} {el inc : Int} {n : Nat} {c : Int} {cs : List Int} (hc : 97 ≤ c) (h : d.gives (deedsL el inc n (c :: cs)) d') :
    ∃ d1, d.bypass = (c - 97, 0, d1) ∧ d1.s = d.s ∧ d1.gives (deedsL el inc n cs) d' := by
  obtain ⟨d1, h1, h2, h3⟩ := h
  refine ⟨d1, ?_, h2, ?_⟩
  · have := h1
    simp only [deedAt, hc, if_true, Dec.deed, Deed.bit] at this
    exact this
  · simpa only [hc, if_true] using h3

/-- The low bits: the last i bits of x. -/
theorem low_split (x i : Nat) : x % 2 ^ (i + 1) = x / 2 ^ i % 2 * 2 ^ i + x % 2 ^ i := by
  have h1 : x % 2 ^ (i + 1) = x % (2 ^ i * 2) := by rw [Nat.pow_succ]
  rw [h1, Nat.mod_mul, Nat.mul_comm, Nat.add_comm]
theorem tail_bound (f x k : Nat) (h : x + 2 ^ k ≤ 2 ^ (k + f)) : 2 ^ k ≤ x → x - 2 ^ k + 2 ^ (k + 1) ≤ 2 ^ (k + 1 + (f - 1)) := by
  intro hx
  rcases f with _ | f
  · have : 0 < 2 ^ k := Nat.two_pow_pos k
    rw [Nat.add_zero] at h
    omega
  · rw [show k + 1 + (f + 1 - 1) = k + (f + 1) by omega]
    have : 2 ^ (k + 1) = 2 ^ k + 2 ^ k := by rw [Nat.pow_succ]; omega
    omega
end Go.Proofs.YtcppbdlmcbjmeaaGreatDoor

namespace Go.Proofs.YtcppbdlmcbjmeaaGreatDoor

def flagOf (b : Bool) : Int := if b then 1 else 0
theorem flagOf_bit (b : Bool) : flagOf b = 0 ∨ flagOf b = 1 := by cases b <;> simp [flagOf]
/-- The last place that is not 0, among the first k; -1: none. -/
def lastTo (cs : List Int) : Nat → Int
  | 0 => -1
  | k + 1 => if cs.getD k 0 ≠ 0 then (k : Int) else lastTo cs k
def lastOf (cs : List Int) : Int := lastTo cs cs.length
theorem lastTo_range (cs : List Int) (k : Nat) : -1 ≤ lastTo cs k ∧ lastTo cs k < k := by
  induction k with
  | zero => simp [lastTo]
  | succ k ih => unfold lastTo; split <;> omega
theorem lastTo_ge (cs : List Int) (k p : Nat) (hp : p < k) (h : cs.getD p 0 ≠ 0) : (p : Int) ≤ lastTo cs k := by
  induction k with
  | zero => omega
  | succ k ih =>
    unfold lastTo
    split
    · omega
    · rename_i hk
      rcases Nat.lt_or_ge p k with hlt | hge
      · exact ih hlt
      · obtain rfl : p = k := by omega
        exact absurd h hk
theorem lastTo_at (cs : List Int) (k : Nat) (h : 0 ≤ lastTo cs k) : cs.getD (lastTo cs k).toNat 0 ≠ 0 := by
  induction k with
  | zero => simp [lastTo] at h
  | succ k ih =>
    unfold lastTo at h ⊢
    split
    · rename_i hk; simpa using hk
    · rename_i hk; rw [if_neg hk] at h; exact ih h
/-- Is one of the first k not 0? -/
def someTo (cs : List Int) : Nat → Bool
  | 0 => false
  | k + 1 => someTo cs k || decide (cs.getD k 0 ≠ 0)
theorem someTo_last (cs : List Int) (k : Nat) : someTo cs k = decide (0 ≤ lastTo cs k) := by
  induction k with
  | zero => simp [someTo, lastTo]
  | succ k ih =>
    unfold someTo lastTo
    rw [ih]
    by_cases h : cs.getD k 0 ≠ 0
    · rw [if_pos h, decide_eq_true h, Bool.or_true]; exact (decide_eq_true (by omega)).symm
    · rw [if_neg h, decide_eq_false h, Bool.or_false]

def incAt (i : Nat) : Int := min ((i : Int) / 2) 7
/-- Where the coefficients are that are not 0: from place i on, m places before the last one. -/
def placeDeeds (cs : List Int) (last : Int) : Nat → Nat → List Deed
  | _, 0 => []
  | i, m + 1 => if cs.getD i 0 = 0 then elemDeeds 15 (incAt i) 0 1 ++ placeDeeds cs last (i + 1) m
    else elemDeeds 15 (incAt i) 1 1 ++ (elemDeeds 16 (incAt i) (flagOf (decide ((i : Int) = last))) 1 ++ (if (i : Int) = last then [] else placeDeeds cs last (i + 1) m))
def placeOut (cs : List Int) (last : Int) : Nat → Nat → List Nat
  | i, 0 => [i]
  | i, m + 1 => if cs.getD i 0 = 0 then placeOut cs last (i + 1) m else i :: (if (i : Int) = last then [] else placeOut cs last (i + 1) m)
theorem placeOut_mem (cs : List Int) (last : Int) (m : Nat) : ∀ i, i + m + 1 = cs.length → last = lastOf cs → (i : Int) ≤ last →
    (∀ p ∈ placeOut cs last i m, i ≤ p ∧ p < cs.length ∧ cs.getD p 0 ≠ 0) ∧ (∀ p, i ≤ p → p < cs.length → cs.getD p 0 ≠ 0 → p ∈ placeOut cs last i m) := by
  induction m with
  | zero =>
    intro i hi hl hle
    have hr := lastTo_range cs cs.length
    have h1 : last = (i : Int) := by unfold lastOf at hl; omega
    have h2 := lastTo_at cs cs.length (by unfold lastOf at hl; omega)
    have h3 : (lastTo cs cs.length).toNat = i := by unfold lastOf at hl; omega
    rw [h3] at h2
    unfold placeOut
    constructor
    · intro p hp
      simp at hp; subst hp
      exact ⟨Nat.le_refl _, by omega, h2⟩
    · intro p h4 h5 _
      simp; omega
  | succ m ih =>
    intro i hi hl hle
    have hlt := lastTo_at cs cs.length (by unfold lastOf at hl; omega)
    unfold placeOut
    split
    · rename_i h0
      have hne : (i : Int) ≠ last := by
        intro he
        apply hlt
        have : (lastTo cs cs.length).toNat = i := by unfold lastOf at hl; omega
        rw [this]; exact h0
      obtain ⟨a, b⟩ := ih (i + 1) (by omega) hl (by omega)
      constructor
      · intro p hp
        obtain ⟨q1, q2, q3⟩ := a p hp
        exact ⟨by omega, q2, q3⟩
      · intro p h4 h5 h6
        rcases Nat.lt_or_ge i p with h | h
        · exact b p (by omega) h5 h6
        · obtain rfl : p = i := by omega
          exact absurd h0 h6
    · rename_i h0
      by_cases he : (i : Int) = last
      · rw [if_pos he]
        constructor
        · intro p hp
          simp at hp; subst hp
          exact ⟨Nat.le_refl _, by omega, h0⟩
        · intro p h4 h5 h6
          have := lastTo_ge cs cs.length p h5 h6
          simp
          unfold lastOf at hl
          omega
      · rw [if_neg he]
        obtain ⟨a, b⟩ := ih (i + 1) (by omega) hl (by omega)
        constructor
        · intro p hp
          rcases List.mem_cons.1 hp with rfl | hp
          · exact ⟨Nat.le_refl _, by omega, h0⟩
          · obtain ⟨q1, q2, q3⟩ := a p hp
            exact ⟨by omega, q2, q3⟩
        · intro p h4 h5 h6
          rcases Nat.lt_or_ge i p with h | h
          · exact List.mem_cons_of_mem _ (b p (by omega) h5 h6)
          · obtain rfl : p = i := by omega
            simp
theorem placeOut_length (cs : List Int) (last : Int) (m : Nat) : ∀ i, (placeOut cs last i m).length ≤ m + 1 := by
  induction m with
  | zero => intro i; simp [placeOut]
  | succ m ih =>
    intro i
    unfold placeOut
    have := ih (i + 1)
    split
    · omega
    · rw [List.length_cons]
      split
      · simp
      · omega

theorem placeOut_pos (cs : List Int) (last : Int) (m : Nat) : ∀ i, 0 < (placeOut cs last i m).length := by
  induction m with
  | zero => intro i; simp [placeOut]
  | succ m ih =>
    intro i
    unfold placeOut
    split
    · exact ih (i + 1)
    · simp

/-- The numbers, the last place first; g: how many greater than 1 there were. -/
def rankOf (cat : Int) (g : Nat) : Int := min 5 (g : Int) + flagOf (decide (1 < cat))
def coefDeeds (cs : List Int) (cat : Int) : List Nat → Nat → List Deed
  | [], _ => []
  | p :: ps, g => elemDeeds 17 (rankOf cat g) ((cs.getD p 0).natAbs - 1 : Int) 1 ++ (Deed.byp (flagOf (decide (cs.getD p 0 < 0))) :: coefDeeds cs cat ps (if 1 < (cs.getD p 0).natAbs then g + 1 else g))
/-- A block. -/
def sigDeeds (cs : List Int) (cat inc : Int) : List Deed :=
  if 0 ≤ lastOf cs then elemDeeds 14 (2 * cat + inc) 1 1 ++ (placeDeeds cs (lastOf cs) 0 (cs.length - 1) ++ coefDeeds cs cat (placeOut cs (lastOf cs) 0 (cs.length - 1)).reverse 0)
  else elemDeeds 14 (2 * cat + inc) 0 1
end Go.Proofs.YtcppbdlmcbjmeaaGreatDoor

namespace Go.Proofs.YtcppbdlmcbjmeaaGreatDoor

theorem elemDeeds_fits (el inc v most : Int) (h0 : 0 ≤ el) (h1 : el ≤ 19) (h2 : 0 ≤ inc) : ∀ o ∈ elemDeeds el inc v most, o.fits 256 := deedsL_fits el inc _ h0 h1 h2 0 (bitsL_letter el v most)
theorem elemDeeds_length (el inc v most : Int) : (elemDeeds el inc v most).length ≤ 100 := by
  unfold elemDeeds
  rw [deedsL_length]
  exact bitsL_length el v most
theorem byp_fits (b : Bool) : (Deed.byp (flagOf b)).fits 256 := flagOf_bit b
theorem rankOf_pos (cat : Int) (g : Nat) : 0 ≤ rankOf cat g := by
  unfold rankOf
  have := flagOf_bit (decide (1 < cat))
  omega
theorem incAt_pos (i : Nat) : 0 ≤ incAt i := by unfold incAt; omega
theorem placeDeeds_fits (cs : List Int) (last : Int) (m : Nat) : ∀ i, ∀ o ∈ placeDeeds cs last i m, o.fits 256 := by
  induction m with
  | zero => intro i o h; cases h
  | succ m ih =>
    intro i o h
    have hi := incAt_pos i
    unfold placeDeeds at h
    split at h
    · rcases List.mem_append.1 h with h | h
      · exact elemDeeds_fits _ _ _ _ (by omega) (by omega) hi o h
      · exact ih _ o h
    · rcases List.mem_append.1 h with h | h
      · exact elemDeeds_fits _ _ _ _ (by omega) (by omega) hi o h
      · rcases List.mem_append.1 h with h | h
        · exact elemDeeds_fits _ _ _ _ (by omega) (by omega) hi o h
        · split at h
          · cases h
          · exact ih _ o h
theorem placeDeeds_length (cs : List Int) (last : Int) (m : Nat) : ∀ i, (placeDeeds cs last i m).length ≤ 200 * m := by
  induction m with
  | zero => intro i; simp [placeDeeds]
  | succ m ih =>
    intro i
    have h1 := elemDeeds_length 15 (incAt i) 0 1
    have h2 := elemDeeds_length 15 (incAt i) 1 1
    have h3 := elemDeeds_length 16 (incAt i) (flagOf (decide ((i : Int) = last))) 1
    have h4 := ih (i + 1)
    unfold placeDeeds
    split
    · rw [List.length_append]; omega
    · rw [List.length_append, List.length_append]
      split
      · simp; omega
      · omega
theorem coefDeeds_fits (cs : List Int) (cat : Int) (P : List Nat) : ∀ g, ∀ o ∈ coefDeeds cs cat P g, o.fits 256 := by
  induction P with
  | nil => intro g o h; cases h
  | cons p P ih =>
    intro g o h
    unfold coefDeeds at h
    rcases List.mem_append.1 h with h | h
    · exact elemDeeds_fits _ _ _ _ (by omega) (by omega) (rankOf_pos cat g) o h
    · rcases List.mem_cons.1 h with rfl | h
      · exact byp_fits _
      · exact ih _ o h
theorem coefDeeds_length (cs : List Int) (cat : Int) (P : List Nat) : ∀ g, (coefDeeds cs cat P g).length ≤ 101 * P.length := by
  induction P with
  | nil => intro g; simp [coefDeeds]
  | cons p P ih =>
    intro g
    have h1 := elemDeeds_length 17 (rankOf cat g) ((cs.getD p 0).natAbs - 1 : Int) 1
    have h2 := ih (if 1 < (cs.getD p 0).natAbs then g + 1 else g)
    unfold coefDeeds
    rw [List.length_append, List.length_cons, List.length_cons]
    omega
/-- May a block be: its size, its category, its increment? -/
def sizeB (n : Int) : Bool := decide (n = 4 ∨ n = 15 ∨ n = 16)
def mayB (n cat inc : Int) : Bool := sizeB n && decide (0 ≤ cat ∧ cat ≤ 3 ∧ 0 ≤ inc ∧ inc ≤ 1)
def mayCode (ok : Bool) : Int := if ok then 0 else 800
/-- Are the numbers within their limits? -/
def rangeB (cs : List Int) : Bool := cs.all fun x => decide (-32767 ≤ x ∧ x ≤ 32767)
def blkFine (cs : List Int) (cat inc : Int) : Bool := mayB cs.length cat inc && rangeB cs
def blkCode (cs : List Int) (cat inc : Int) : Int := if mayB cs.length cat inc then (if rangeB cs then 0 else 802) else 800
theorem mayB_spec {n cat inc : Int} (h : mayB n cat inc = true) : (n = 4 ∨ n = 15 ∨ n = 16) ∧ 0 ≤ cat ∧ cat ≤ 3 ∧ 0 ≤ inc ∧ inc ≤ 1 := by
  unfold mayB sizeB at h
  rw [Bool.and_eq_true, decide_eq_true_eq, decide_eq_true_eq] at h
  exact h
theorem rangeB_at {cs : List Int} (h : rangeB cs = true) (i : Nat) : -32767 ≤ cs.getD i 0 ∧ cs.getD i 0 ≤ 32767 := by
  unfold rangeB at h
  rw [List.all_eq_true] at h
  by_cases hi : i < cs.length
  · have h1 := h cs[i] (List.getElem_mem hi)
    rw [decide_eq_true_eq] at h1
    simpa [List.getD, List.getElem?_eq_getElem hi] using h1
  · simp [List.getD, List.getElem?_eq_none (Nat.le_of_not_lt hi)]
theorem rangeB_of {cs : List Int} (h : ∀ i, i < cs.length → -32767 ≤ cs.getD i 0 ∧ cs.getD i 0 ≤ 32767) : rangeB cs = true := by
  unfold rangeB
  rw [List.all_eq_true]
  intro x hx
  obtain ⟨i, hi, rfl⟩ := List.getElem_of_mem hx
  have := h i hi
  rw [decide_eq_true_eq]
  simpa [List.getD, List.getElem?_eq_getElem hi] using this
theorem rangeB_not {cs : List Int} {i : Nat} (h : cs.getD i 0 < -32767 ∨ 32767 < cs.getD i 0) : rangeB cs = false := by
  cases hr : rangeB cs with
  | false => rfl
  | true => have := rangeB_at hr i; omega
theorem blkFine_spec {cs : List Int} {cat inc : Int} (h : blkFine cs cat inc = true) : mayB cs.length cat inc = true ∧ rangeB cs = true := by
  unfold blkFine at h
  rwa [Bool.and_eq_true] at h
theorem sigDeeds_fits (cs : List Int) (cat inc : Int) (h0 : 0 ≤ cat) (h1 : 0 ≤ inc) : ∀ o ∈ sigDeeds cs cat inc, o.fits 256 := by
  intro o h
  unfold sigDeeds at h
  split at h
  · rcases List.mem_append.1 h with h | h
    · exact elemDeeds_fits _ _ _ _ (by omega) (by omega) (by omega) o h
    · rcases List.mem_append.1 h with h | h
      · exact placeDeeds_fits _ _ _ _ o h
      · exact coefDeeds_fits _ _ _ _ o h
  · exact elemDeeds_fits _ _ _ _ (by omega) (by omega) (by omega) o h
theorem sigDeeds_length (cs : List Int) (cat inc : Int) (h : cs.length ≤ 16) : (sigDeeds cs cat inc).length ≤ 5000 := by
  have h1 := elemDeeds_length 14 (2 * cat + inc) 1 1
  have h2 := elemDeeds_length 14 (2 * cat + inc) 0 1
  have h3 := placeDeeds_length cs (lastOf cs) (cs.length - 1) 0
  have h4 := coefDeeds_length cs cat (placeOut cs (lastOf cs) 0 (cs.length - 1)).reverse 0
  have h5 := placeOut_length cs (lastOf cs) (cs.length - 1) 0
  rw [List.length_reverse] at h4
  unfold sigDeeds
  split
  · rw [List.length_append, List.length_append]
    omega
  · omega
end Go.Proofs.YtcppbdlmcbjmeaaGreatDoor
