/-
  Plain Lean: a list of acts: an encoder writes it, a decoder reads it back. No program is named.
-/
import Derived.Test.YtibojidpifgblaaDoorInv2
namespace Go.Proofs.YtibojidpifgblaaDoor

/-- An act: a context's bin, a bin by bypass, no end. -/
inductive Deed where
  | bin (c : Nat) (b : Int)
  | byp (b : Int)
  | ter
def Enc.deed (e : Enc) : Deed → Enc
  | .bin c b => e.bin c b
  | .byp b => e.bypass b
  | .ter => e.term 0
def Dec.deed (d : Dec) : Deed → Int × Int × Dec
  | .bin c _ => d.bin c
  | .byp _ => d.bypass
  | .ter => d.term
def Deed.bit : Deed → Int
  | .bin _ b => b
  | .byp b => b
  | .ter => 0
def Deed.fits (n : Nat) : Deed → Prop
  | .bin c b => c < n ∧ (b = 0 ∨ b = 1)
  | .byp b => b = 0 ∨ b = 1
  | .ter => True
def Enc.run (e : Enc) (ops : List Deed) : Enc := ops.foldl Enc.deed e
theorem Enc.run_snoc (e : Enc) (ops : List Deed) (o : Deed) : e.run (ops ++ [o]) = (e.run ops).deed o := by simp [Enc.run]
theorem Enc.run_append (e : Enc) (a b : List Deed) : e.run (a ++ b) = (e.run a).run b := by simp [Enc.run]

theorem Enc.live_deed (e : Enc) (o : Deed) (h : e.Live) (hf : o.fits e.st.length) :
    (e.deed o).Live ∧ (e.deed o).st.length = e.st.length ∧ (e.deed o).cost ≤ e.cost + 8 ∧ ∃ n, (e.deed o).steps = e.steps + n ∧ e.exact * 2 ^ n ≤ (e.deed o).exact ∧ (e.deed o).exact + (e.deed o).wid ≤ (e.exact + e.wid) * 2 ^ n := by
  cases o with
  | bin c b => obtain ⟨h1, h2, h3⟩ := e.live_bin c b h hf.1 hf.2; exact ⟨h1, h2, (e.good_bin c b h.good).2, h3⟩
  | byp b =>
    obtain ⟨h1, h2, -⟩ := e.live_bypass b h hf
    have hc := (e.good_bypass b h.good).2
    exact ⟨h1, by show (e.bypass b).st.length = _; rw [h2], by show (e.bypass b).cost ≤ _; omega, 1, e.nest_bypass b h hf⟩
  | ter =>
    obtain ⟨h1, h2, h3⟩ := e.live_term h
    obtain ⟨l1, l2, l3, l4, l5, l6, l7⟩ := e.fit_last 0 h (.inl rfl)
    have hn := Enc.ok_norm 8 _ l1.ok l5
    have hl := (e.ok_last 0 h.good).2.1
    refine ⟨h1, by show (e.term 0).st.length = _; rw [h2], ?_, h3⟩
    show (e.term 0).cost ≤ _
    rw [e.term_no h, ← hl]
    exact hn.2.2
theorem Enc.live_run (ops : List Deed) : ∀ e : Enc, e.Live → (∀ o ∈ ops, o.fits e.st.length) → (e.run ops).Live ∧ (e.run ops).st.length = e.st.length ∧ (e.run ops).cost ≤ e.cost + 8 * ops.length := by
  induction ops with
  | nil => intro e h _; exact ⟨h, rfl, by show e.cost ≤ _; omega⟩
  | cons o ops ih =>
    intro e h hf
    obtain ⟨h1, h2, h3, -⟩ := e.live_deed o h (hf o (by simp))
    obtain ⟨g1, g2, g3⟩ := ih (e.deed o) h1 (fun x hx => by rw [h2]; exact hf x (by simp [hx]))
    refine ⟨g1, g2.trans h2, ?_⟩
    show ((e.deed o).run ops).cost ≤ _
    simp only [List.length_cons]
    omega
theorem Enc.in_run (ops : List Deed) : ∀ e : Enc, e.Live → (∀ o ∈ ops, o.fits e.st.length) → ∀ K V, (e.run ops).In K V → e.In K V := by
  induction ops with
  | nil => intro e _ _ K V h; exact h
  | cons o ops ih =>
    intro e h hf K V hin
    obtain ⟨h1, h2, -, n, h4, h5, h6⟩ := e.live_deed o h (hf o (by simp))
    exact Enc.in_nest h4 h5 h6 (ih (e.deed o) h1 (fun x hx => by rw [h2]; exact hf x (by simp [hx])) K V hin)
/-- At each place of the list the bytes' number lies in the interval. -/
theorem Enc.in_prefix (e : Enc) (a b : List Deed) (h : e.Live) (hf : ∀ o ∈ a ++ b, o.fits e.st.length) : (e.run a).In (e.run (a ++ b)).steps (readTo (e.run (a ++ b)).text 0 (9 + (e.run (a ++ b)).steps)) := by
  have h1 := e.live_run a h (fun o ho => hf o (by simp [ho]))
  have h2 := e.live_run (a ++ b) h hf
  have h3 := (e.run (a ++ b)).end_in h2.1
  rw [Enc.run_append] at h3 ⊢
  exact Enc.in_run b (e.run a) h1.1 (fun o ho => by rw [h1.2.1]; exact hf o (by simp [ho])) _ _ h3
theorem Enc.meets_deed (e : Enc) (d : Dec) (o : Deed) (K : Nat) (h : e.Live) (hm : e.Meets d) (hf : o.fits e.st.length) (hin : (e.deed o).In K (readTo d.s 0 (9 + K))) (hsz : 9 + K ≤ 8 * d.s.size) :
    ∃ d', d.deed o = (o.bit, 0, d') ∧ (e.deed o).Meets d' ∧ d'.s = d.s := by
  cases o with
  | bin c b => exact e.meets_bin d c K b h hm hf.1 hf.2 hin hsz
  | byp b => exact e.meets_bypass d K b h hm hf hin hsz
  | ter => exact e.meets_term d K h hm hin hsz

/-- The decoder that has read so many acts of a list, and what the next one gives. -/
structure Read (xs : List Int) (ops : List Deed) (j : Nat) (d : Dec) : Prop where
  meets : ((Enc.new xs).run (ops.take j)).Meets d
  text : d.s = ((Enc.new xs).run ops).text
theorem Read.begins (xs : List Int) (ops : List Deed) (hf : ∀ o ∈ ops, o.fits xs.length) :
    beginOf xs = (Enc.new xs).st ∧ ¬ ((Enc.new xs).run ops).text.size < 2 ∧ ¬ 510 ≤ readTo ((Enc.new xs).run ops).text 0 9 ∧ Read xs ops 0 (Dec.begin ((Enc.new xs).run ops).text xs) := by
  have hl : (Enc.new xs).st.length = xs.length := by simp [Enc.new, beginOf]
  have h1 := (Enc.new xs).live_run ops (Enc.live_new xs) (fun o ho => by rw [hl]; exact hf o ho)
  have h2 := (Enc.new xs).in_prefix [] ops (Enc.live_new xs) (fun o ho => by rw [hl]; exact hf o (by simpa using ho))
  rw [List.nil_append] at h2
  have hs := ((Enc.new xs).run ops).text_size h1.1
  obtain ⟨m1, m2, m3⟩ := Enc.meets_new xs _ _ h2 (by omega)
  exact ⟨rfl, m2, m3, m1, rfl⟩
theorem Read.step (xs : List Int) (ops : List Deed) (j : Nat) (d : Dec) (hf : ∀ o ∈ ops, o.fits xs.length) (h : Read xs ops j d) (o : Deed) (ho : ops[j]? = some o) :
    ∃ d', d.deed o = (o.bit, 0, d') ∧ Read xs ops (j + 1) d' := by
  have hl : (Enc.new xs).st.length = xs.length := by simp [Enc.new, beginOf]
  have hlt : j < ops.length := by
    rcases Nat.lt_or_ge j ops.length with h | h
    · exact h
    · rw [List.getElem?_eq_none h] at ho; cases ho
  have htk : ops.take (j + 1) = ops.take j ++ [o] := by rw [List.take_add_one, ho]; rfl
  have hmem : o ∈ ops := List.mem_of_getElem? ho
  have hlive := (Enc.new xs).live_run ops (Enc.live_new xs) (fun o ho => by rw [hl]; exact hf o ho)
  have hlj := (Enc.new xs).live_run (ops.take j) (Enc.live_new xs) (fun o ho => by rw [hl]; exact hf o (List.mem_of_mem_take ho))
  have hin := (Enc.new xs).in_prefix (ops.take (j + 1)) (ops.drop (j + 1)) (Enc.live_new xs) (fun o ho => by rw [hl]; rw [List.take_append_drop] at ho; exact hf o ho)
  rw [List.take_append_drop, htk, Enc.run_snoc, ← h.text] at hin
  have hsz := ((Enc.new xs).run ops).text_size hlive.1
  obtain ⟨d', h1, h2, h3⟩ := Enc.meets_deed _ d o _ hlj.1 h.meets (by rw [hlj.2.1, hl]; exact hf o hmem) hin (by rw [h.text]; omega)
  exact ⟨d', h1, by rw [htk, Enc.run_snoc]; exact h2, h3.trans h.text⟩
theorem Read.ends (xs : List Int) (ops : List Deed) (d : Dec) (hf : ∀ o ∈ ops, o.fits xs.length) (h : Read xs ops ops.length d) :
    d.term = (1, 0, { d with wid := d.wid - 2, over := true }) ∧ d.st = (((Enc.new xs).run ops).term 1).st ∧ (d.pos + 7) / 8 = d.s.size ∧ d.pos = 9 + ((Enc.new xs).run ops).steps := by
  have hl : (Enc.new xs).st.length = xs.length := by simp [Enc.new, beginOf]
  have hlive := (Enc.new xs).live_run ops (Enc.live_new xs) (fun o ho => by rw [hl]; exact hf o ho)
  have hm := h.meets
  rw [List.take_length] at hm
  obtain ⟨h1, h2, h3⟩ := Enc.meets_end _ d hlive.1 hm h.text
  exact ⟨h1, h2, h3, hm.pos⟩
end Go.Proofs.YtibojidpifgblaaDoor
