/-
  The document's encoder that the call itself has made, between the calls of its methods.
-/
import Derived.Test.YtgmnkihldlajcaaGreatDoorHold
import Derived.Test.YtgmnkihldlajcaaGreatDoorRefD
import Derived.Test.YtgmnkihldlajcaaGreatDoorPlain
namespace Go.Proofs.YtgmnkihldlajcaaGreatDoor
open Go.RowKit

structure RefAt (w0 w : World) (b tb sb : Nat) (ov : Value) (e : Enc) : Prop where
  is : RefIs w b tb sb ov e
  good : e.Good
  on : Only [] w0 w
  hb : w0.heap.size ≤ b
  htb : w0.heap.size ≤ tb
  hsb : w0.heap.size ≤ sb
  hov : ∀ g, ov.ownBlock = some g → w0.heap.size ≤ g
theorem RefAt.go {w0 w w' : World} {b tb sb : Nat} {ov ov' : Value} {e e' : Enc} (h : RefAt w0 w b tb sb ov e) (hi : RefIs w' b tb sb ov' e') (hg : EncGo w w' b sb ov ov') (hgd : e'.Good) : RefAt w0 w' b tb sb ov' e' := by
  refine ⟨hi, hgd, h.on.trans' hg.only ?_, h.hb, h.htb, h.hsb, fun g hgv => ?_⟩
  · intro i hi
    simp only [List.mem_cons, Option.mem_toList] at hi
    rcases hi with rfl | rfl | hi
    · exact .inr h.hb
    · exact .inr h.hsb
    · exact .inr (h.hov i hi)
  · rcases hg.new g hgv with h1 | h1
    · exact h.hov g h1
    · exact Nat.le_trans h.on.size h1
theorem RefAt.only {w0 w w' : World} {b tb sb : Nat} {ov : Value} {e : Enc} {S : List Nat} (h : RefAt w0 w b tb sb ov e) (ho : Only S w w') (hS : ∀ i ∈ S, w0.heap.size ≤ i) (h1 : b ∉ S) (h2 : tb ∉ S) (h3 : sb ∉ S) (h4 : ∀ g, ov.ownBlock = some g → g ∉ S) : RefAt w0 w' b tb sb ov e :=
  ⟨h.is.only ho h1 h2 h3 h4, h.good, h.on.trans' ho (fun i hi => .inr (hS i hi)), h.hb, h.htb, h.hsb, h.hov⟩
theorem RefAt.bin {w0 w : World} {b tb sb : Nat} {ov : Value} {e : Enc} (h : RefAt w0 w b tb sb ov e) (c x : Int) (hn : e.cost < 700000000) :
    Calls Tryz.prog 41 #[.pointer (some ⟨b, 0, none⟩), .int .i64 c, .int .i64 x] w fun r w' => r = .returned (.int .i64 (codeOf (e.canBin c x))) ∧ ∃ ov', RefAt w0 w' b tb sb ov' (e.bin c x) ∧ EncGo w w' b sb ov ov' := by
  refine (ref_bin b tb sb ov e c x w h.is h.good hn).mono ?_
  rintro r w' ⟨rfl, ov', h1, h2⟩
  exact ⟨rfl, ov', h.go h1 h2 (e.good_bin c x h.good).1, h2⟩
theorem RefAt.bypass {w0 w : World} {b tb sb : Nat} {ov : Value} {e : Enc} (h : RefAt w0 w b tb sb ov e) (x : Int) (hn : e.cost < 700000000) :
    Calls Tryz.prog 29 #[.pointer (some ⟨b, 0, none⟩), .int .i64 x] w fun r w' => r = .returned (.int .i64 (codeOf (e.may x))) ∧ ∃ ov', RefAt w0 w' b tb sb ov' (e.bypass x) ∧ EncGo w w' b sb ov ov' := by
  refine (ref_bypass b tb sb ov e x w h.is h.good hn).mono ?_
  rintro r w' ⟨rfl, ov', h1, h2⟩
  exact ⟨rfl, ov', h.go h1 h2 (e.good_bypass x h.good).1, h2⟩
theorem RefAt.bytes {w0 w : World} {b tb sb : Nat} {ov : Value} {e : Enc} (h : RefAt w0 w b tb sb ov e) (hn : e.cost ≤ 1000000000) :
    Calls Tryz.prog 14 #[.pointer (some ⟨b, 0, none⟩)] w fun r w' => r = .returned (.string (strOfNums (packed e.bits))) ∧ RefAt w0 w' b tb sb ov e ∧ Only [] w w' := by
  refine (ref_bytes b tb sb ov e w h.is h.good.ok.bits (by unfold Enc.cost at hn; omega)).mono ?_
  rintro r w' ⟨rfl, h1⟩
  exact ⟨rfl, h.only h1 (by simp) (by simp) (by simp) (by simp) (by simp), h1⟩
/-- The two encoders side by side: what keeps them apart. -/
structure Apart (s1 : Nat) (o1 : Value) (t2 s2 : Nat) (o2 : Value) : Prop where
  s : s1 ≠ s2
  t : s1 ≠ t2
  o : ∀ g, o1.ownBlock = some g → o2.ownBlock ≠ some g
theorem RefAt.past {w0 w w' : World} {b1 t1 s1 b2 t2 s2 : Nat} {o1 o1' o2 : Value} {e1 e2 : Enc} (h1 : EncAt w0 w b1 t1 s1 o1 e1) (h2 : RefAt w0 w b2 t2 s2 o2 e2) (ha : Apart s1 o1 t2 s2 o2) (hg : EncGo w w' b1 s1 o1 o1') : RefAt w0 w' b2 t2 s2 o2 e2 ∧ Apart s1 o1' t2 s2 o2 := by
  have hO1 : ∀ g, o1.ownBlock = some g → ∃ cur, w.heap[g]? = some (.cells cur 5 (0, 0)) := fun g hg => ownsRow_block h1.is.out hg
  have hO2 : ∀ g, o2.ownBlock = some g → ∃ cur, w.heap[g]? = some (.cells cur 5 (0, 0)) := fun g hg => ownsRow_block h2.is.out hg
  have key : ∀ k, k ∈ b1 :: s1 :: o1.ownBlock.toList → w0.heap.size ≤ k ∧ k ≠ b2 ∧ k ≠ t2 ∧ k ≠ s2 ∧ o2.ownBlock ≠ some k := by
    intro k hk
    simp only [List.mem_cons, Option.mem_toList] at hk
    rcases hk with rfl | rfl | hk
    · exact ⟨h1.hb, block_type h1.is.cells h2.is.cells (by decide), block_type h1.is.cells h2.is.tab (by decide), block_type h1.is.cells h2.is.sts (by decide), fun h => by obtain ⟨c, hc⟩ := hO2 _ h; exact block_type h1.is.cells hc (by decide) rfl⟩
    · exact ⟨h1.hsb, block_type h1.is.sts h2.is.cells (by decide), ha.t, ha.s, fun h => by obtain ⟨c, hc⟩ := hO2 _ h; exact block_type h1.is.sts hc (by decide) rfl⟩
    · obtain ⟨c, hc⟩ := hO1 _ hk
      exact ⟨h1.hov k hk, block_type hc h2.is.cells (by decide), block_type hc h2.is.tab (by decide), block_type hc h2.is.sts (by decide), ha.o k hk⟩
  refine ⟨h2.only hg.only (fun i hi => (key i hi).1) (fun h => (key _ h).2.1 rfl) (fun h => (key _ h).2.2.1 rfl) (fun h => (key _ h).2.2.2.1 rfl) (fun g hg2 h => (key g h).2.2.2.2 hg2), ha.s, ha.t, ?_⟩
  intro g hg2 h
  rcases hg.new g hg2 with k | k
  · exact ha.o g k h
  · obtain ⟨c, hc⟩ := hO2 g h
    have := lt_of_block hc
    omega
theorem EncAt.aside {w0 w w' : World} {b1 t1 s1 b2 t2 s2 : Nat} {o1 o2 o2' : Value} {e1 e2 : Enc} (h1 : EncAt w0 w b1 t1 s1 o1 e1) (h2 : RefAt w0 w b2 t2 s2 o2 e2) (ha : Apart s1 o1 t2 s2 o2) (hg : EncGo w w' b2 s2 o2 o2') : EncAt w0 w' b1 t1 s1 o1 e1 ∧ Apart s1 o1 t2 s2 o2' := by
  have hO1 : ∀ g, o1.ownBlock = some g → ∃ cur, w.heap[g]? = some (.cells cur 5 (0, 0)) := fun g hg => ownsRow_block h1.is.out hg
  have hO2 : ∀ g, o2.ownBlock = some g → ∃ cur, w.heap[g]? = some (.cells cur 5 (0, 0)) := fun g hg => ownsRow_block h2.is.out hg
  have key : ∀ k, k ∈ b2 :: s2 :: o2.ownBlock.toList → w0.heap.size ≤ k ∧ k ≠ b1 ∧ k ≠ t1 ∧ k ≠ s1 ∧ o1.ownBlock ≠ some k := by
    intro k hk
    simp only [List.mem_cons, Option.mem_toList] at hk
    rcases hk with rfl | rfl | hk
    · exact ⟨h2.hb, block_type h2.is.cells h1.is.cells (by decide), block_type h2.is.cells h1.is.tab (by decide), block_type h2.is.cells h1.is.sts (by decide), fun h => by obtain ⟨c, hc⟩ := hO1 _ h; exact block_type h2.is.cells hc (by decide) rfl⟩
    · exact ⟨h2.hsb, block_type h2.is.sts h1.is.cells (by decide), block_type h2.is.sts h1.is.tab (by decide), fun h => ha.s h.symm, fun h => by obtain ⟨c, hc⟩ := hO1 _ h; exact block_type h2.is.sts hc (by decide) rfl⟩
    · obtain ⟨c, hc⟩ := hO2 _ hk
      exact ⟨h2.hov k hk, block_type hc h1.is.cells (by decide), block_type hc h1.is.tab (by decide), block_type hc h1.is.sts (by decide), fun h => ha.o k h hk⟩
  refine ⟨h1.only hg.only (fun i hi => (key i hi).1) (fun h => (key _ h).2.1 rfl) (fun h => (key _ h).2.2.1 rfl) (fun h => (key _ h).2.2.2.1 rfl) (fun g hg2 h => (key g h).2.2.2.2 hg2), ha.s, ha.t, ?_⟩
  intro g hg2 h
  rcases hg.new g h with k | k
  · exact ha.o g hg2 k
  · obtain ⟨c, hc⟩ := hO1 g hg2
    have := lt_of_block hc
    omega
theorem RefAt.drewN {w0 w : World} {b tb sb : Nat} {ov : Value} {e : Enc} (h : RefAt w0 w b tb sb ov e) (n : Nat) : RefAt w0 (w.drewN n) b tb sb ov e := ⟨h.is.drewN n, h.good, h.on.drewN n, h.hb, h.htb, h.hsb, h.hov⟩
theorem RefAt.drew {w0 w : World} {b tb sb : Nat} {ov : Value} {e : Enc} (h : RefAt w0 w b tb sb ov e) : RefAt w0 w.drew b tb sb ov e := ⟨h.is.drew, h.good, h.on.drew, h.hb, h.htb, h.hsb, h.hov⟩
/-- The program's encoder and the document's, side by side. -/
structure Pair (w0 w : World) (b1 t1 s1 b2 t2 s2 : Nat) (o1 o2 : Value) (e1 e2 : Enc) : Prop where
  a : EncAt w0 w b1 t1 s1 o1 e1
  r : RefAt w0 w b2 t2 s2 o2 e2
  ap : Apart s1 o1 t2 s2 o2
theorem Pair.enc {w0 w w' : World} {b1 t1 s1 b2 t2 s2 : Nat} {o1 o2 o1' : Value} {e1 e2 e1' : Enc} (h : Pair w0 w b1 t1 s1 b2 t2 s2 o1 o2 e1 e2) (k : EncAt w0 w' b1 t1 s1 o1' e1') (hg : EncGo w w' b1 s1 o1 o1') : Pair w0 w' b1 t1 s1 b2 t2 s2 o1' o2 e1' e2 :=
  have x := RefAt.past h.a h.r h.ap hg
  ⟨k, x.1, x.2⟩
theorem Pair.ref {w0 w w' : World} {b1 t1 s1 b2 t2 s2 : Nat} {o1 o2 o2' : Value} {e1 e2 e2' : Enc} (h : Pair w0 w b1 t1 s1 b2 t2 s2 o1 o2 e1 e2) (k : RefAt w0 w' b2 t2 s2 o2' e2') (hg : EncGo w w' b2 s2 o2 o2') : Pair w0 w' b1 t1 s1 b2 t2 s2 o1 o2' e1 e2' :=
  have x := EncAt.aside h.a h.r h.ap hg
  ⟨x.1, k, x.2⟩
theorem Pair.only {w0 w w' : World} {b1 t1 s1 b2 t2 s2 : Nat} {o1 o2 : Value} {e1 e2 : Enc} (h : Pair w0 w b1 t1 s1 b2 t2 s2 o1 o2 e1 e2) (ho : Only [] w w') : Pair w0 w' b1 t1 s1 b2 t2 s2 o1 o2 e1 e2 :=
  ⟨h.a.only ho (by simp) (by simp) (by simp) (by simp) (by simp), h.r.only ho (by simp) (by simp) (by simp) (by simp) (by simp), h.ap⟩
theorem Pair.drewN {w0 w : World} {b1 t1 s1 b2 t2 s2 : Nat} {o1 o2 : Value} {e1 e2 : Enc} (h : Pair w0 w b1 t1 s1 b2 t2 s2 o1 o2 e1 e2) (n : Nat) : Pair w0 (w.drewN n) b1 t1 s1 b2 t2 s2 o1 o2 e1 e2 := ⟨h.a.drewN n, h.r.drewN n, h.ap⟩
theorem Pair.drew {w0 w : World} {b1 t1 s1 b2 t2 s2 : Nat} {o1 o2 : Value} {e1 e2 : Enc} (h : Pair w0 w b1 t1 s1 b2 t2 s2 o1 o2 e1 e2) : Pair w0 w.drew b1 t1 s1 b2 t2 s2 o1 o2 e1 e2 := ⟨h.a.drew, h.r.drew, h.ap⟩
/-- Both begin. -/
theorem pair_new {w0 w1 w2 : World} {b1 t1 s1 b2 t2 s2 : Nat} {e : Enc} (h1 : EncAt w0 w1 b1 t1 s1 (.slice none 0 0) e) (h2 : RefIs w2 b2 t2 s2 (.slice none 0 0) e) (ho : Only [] w1 w2) (k1 : w1.heap.size ≤ b2) (k2 : w1.heap.size ≤ t2) (k3 : w1.heap.size ≤ s2) :
    Pair w0 w2 b1 t1 s1 b2 t2 s2 (.slice none 0 0) (.slice none 0 0) e e := by
  have hs := lt_of_block h1.is.sts
  have hz := h1.on.size
  exact ⟨h1.only ho (by simp) (by simp) (by simp) (by simp) (by simp), ⟨h2, h1.good, h1.on.trans ho, by omega, by omega, by omega, fun g hg => by simp [Value.ownBlock] at hg⟩, by omega, by omega, fun g hg => by simp [Value.ownBlock] at hg⟩
end Go.Proofs.YtgmnkihldlajcaaGreatDoor

/-
  How many contexts an encoder has: it stays; the document's states as a slice; a list is the same as itself.
-/
namespace Go.Proofs.YtgmnkihldlajcaaGreatDoor
open Go.RowKit

theorem Enc.shift_st (e : Enc) : e.shift.st = e.st := by
  unfold Enc.shift
  dsimp only
  split
  · rfl
  · split <;> rfl
theorem Enc.norm_st (k : Nat) : ∀ e : Enc, (Enc.norm k e).st = e.st := by
  induction k with
  | zero => intro e; rfl
  | succ k ih =>
    intro e
    unfold Enc.norm
    split
    · rw [ih, Enc.shift_st]
    · rfl
theorem Enc.bin_len (e : Enc) (c b : Int) : (e.bin c b).st.length = e.st.length := by
  unfold Enc.bin
  split
  · rw [Enc.norm_st]
    unfold Enc.narrow
    dsimp only
    split <;> simp
  · rfl
theorem Enc.bypass_len (e : Enc) (b : Int) : (e.bypass b).st.length = e.st.length := by
  unfold Enc.bypass
  split
  · unfold Enc.half
    dsimp only
    split
    · rfl
    · split <;> rfl
  · rfl
theorem Enc.term_len (e : Enc) (b : Int) : (e.term b).st.length = e.st.length := by
  have hl : (e.last b).st = e.st := by unfold Enc.last; split <;> rfl
  unfold Enc.term
  split
  · split
    · show (Enc.norm 8 (e.last b)).st.length = _
      rw [Enc.norm_st, hl]
    · rw [Enc.norm_st, hl]
  · rfl
/-- The document's states as a slice. -/
theorem ref_states {w0 w : World} {b tb sb : Nat} {ov : Value} {e : Enc} {L : Nat} (h : RefAt w0 w b tb sb ov e) (hL : L = e.st.length) : IntSlice w (.slice (some ⟨sb, 0, none⟩) L L) e.st := by
  subst hL
  exact IntSlice.of_block h.is.sts
theorem same_self (v u : Value) (xs : List Int) (w : World) (hv : IntSlice w v xs) (hu : IntSlice w u xs) (hl : xs.length ≤ 9000000000000000000) :
    Calls Tryz.prog 15 #[v, u] w fun e w' => e = .returned (.bool true) ∧ Only [] w w' := by
  have h := same_ints v u xs xs w hv hu hl hl
  rw [decide_eq_true (show xs = xs from rfl)] at h
  exact h
end Go.Proofs.YtgmnkihldlajcaaGreatDoor
