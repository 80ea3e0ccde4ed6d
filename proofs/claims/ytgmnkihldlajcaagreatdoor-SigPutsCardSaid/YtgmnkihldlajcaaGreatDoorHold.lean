/-
  An encoder or a decoder that the call itself has made, between the calls of its methods.
-/
import Derived.Test.YtgmnkihldlajcaaGreatDoorEngM
import Derived.Test.YtgmnkihldlajcaaGreatDoorEnc
namespace Go.Proofs.YtgmnkihldlajcaaGreatDoor
open Go.RowKit

/-- The encoder e stands in blocks that are new since w0. -/
structure EncAt (w0 w : World) (b tb sb : Nat) (ov : Value) (e : Enc) : Prop where
  is : EncIs w b tb sb ov e
  good : e.Good
  on : Only [] w0 w
  hb : w0.heap.size ≤ b
  htb : w0.heap.size ≤ tb
  hsb : w0.heap.size ≤ sb
  hov : ∀ g, ov.ownBlock = some g → w0.heap.size ≤ g
theorem EncAt.go {w0 w w' : World} {b tb sb : Nat} {ov ov' : Value} {e e' : Enc} (h : EncAt w0 w b tb sb ov e) (hi : EncIs w' b tb sb ov' e') (hg : EncGo w w' b sb ov ov') (hgd : e'.Good) : EncAt w0 w' b tb sb ov' e' := by
  refine ⟨hi, hgd, h.on.trans' hg.only ?_, h.hb, h.htb, h.hsb, fun g hgv => ?_⟩
  · intro i hi
    simp only [List.mem_cons, Option.mem_toList] at hi
    rcases hi with rfl | rfl | hi
    · exact .inr h.hb
    · exact .inr h.hsb
    · exact .inr (h.hov i hi)
  · rcases hg.new g hgv with h1 | h1
    · exact h.hov g h1
    · exact Nat.le_trans h.on.size h1
theorem EncAt.only {w0 w w' : World} {b tb sb : Nat} {ov : Value} {e : Enc} {S : List Nat} (h : EncAt w0 w b tb sb ov e) (ho : Only S w w') (hS : ∀ i ∈ S, w0.heap.size ≤ i) (h1 : b ∉ S) (h2 : tb ∉ S) (h3 : sb ∉ S) (h4 : ∀ g, ov.ownBlock = some g → g ∉ S) : EncAt w0 w' b tb sb ov e := by
  refine ⟨⟨ho.heap h.is.cells h1, h.is.tab.only ho h2, ho.heap h.is.sts h3, ownsRow_of_block h.is.out fun g hg => ?_⟩, h.good, h.on.trans' ho (fun i hi => .inr (hS i hi)), h.hb, h.htb, h.hsb, h.hov⟩
  obtain ⟨cur, hc⟩ := ownsRow_block h.is.out hg
  exact ho.block g (lt_of_block hc) (h4 g hg)
theorem EncAt.drewN {w0 w : World} {b tb sb : Nat} {ov : Value} {e : Enc} (h : EncAt w0 w b tb sb ov e) (n : Nat) : EncAt w0 (w.drewN n) b tb sb ov e := ⟨h.is.drewN n, h.good, h.on.drewN n, h.hb, h.htb, h.hsb, h.hov⟩
theorem EncAt.drew {w0 w : World} {b tb sb : Nat} {ov : Value} {e : Enc} (h : EncAt w0 w b tb sb ov e) : EncAt w0 w.drew b tb sb ov e := ⟨h.is.drew, h.good, h.on.drew, h.hb, h.htb, h.hsb, h.hov⟩
theorem EncAt.bin {w0 w : World} {b tb sb : Nat} {ov : Value} {e : Enc} (h : EncAt w0 w b tb sb ov e) (c x : Int) (hn : e.cost < 700000000) :
    Calls Tryz.prog 83 #[.pointer (some ⟨b, 0, none⟩), .int .i64 c, .int .i64 x] w fun r w' => r = .returned (.int .i64 (codeOf (e.canBin c x))) ∧ ∃ ov', EncAt w0 w' b tb sb ov' (e.bin c x) ∧ EncGo w w' b sb ov ov' := by
  refine (eng_bin b tb sb ov e c x w h.is h.good hn).mono ?_
  rintro r w' ⟨rfl, ov', h1, h2⟩
  exact ⟨rfl, ov', h.go h1 h2 (e.good_bin c x h.good).1, h2⟩
theorem EncAt.bypass {w0 w : World} {b tb sb : Nat} {ov : Value} {e : Enc} (h : EncAt w0 w b tb sb ov e) (x : Int) (hn : e.cost < 700000000) :
    Calls Tryz.prog 74 #[.pointer (some ⟨b, 0, none⟩), .int .i64 x] w fun r w' => r = .returned (.int .i64 (codeOf (e.may x))) ∧ ∃ ov', EncAt w0 w' b tb sb ov' (e.bypass x) ∧ EncGo w w' b sb ov ov' := by
  refine (eng_bypass b tb sb ov e x w h.is h.good hn).mono ?_
  rintro r w' ⟨rfl, ov', h1, h2⟩
  exact ⟨rfl, ov', h.go h1 h2 (e.good_bypass x h.good).1, h2⟩
theorem EncAt.term {w0 w : World} {b tb sb : Nat} {ov : Value} {e : Enc} (h : EncAt w0 w b tb sb ov e) (x : Int) (hn : e.cost < 700000000) :
    Calls Tryz.prog 31 #[.pointer (some ⟨b, 0, none⟩), .int .i64 x] w fun r w' => r = .returned (.int .i64 (codeOf (e.may x))) ∧ ∃ ov', EncAt w0 w' b tb sb ov' (e.term x) ∧ EncGo w w' b sb ov ov' := by
  refine (eng_term b tb sb ov e x w h.is h.good hn).mono ?_
  rintro r w' ⟨rfl, ov', h1, h2⟩
  exact ⟨rfl, ov', h.go h1 h2 (e.good_term x h.good).1, h2⟩
theorem EncAt.bytes {w0 w : World} {b tb sb : Nat} {ov : Value} {e : Enc} (h : EncAt w0 w b tb sb ov e) :
    Calls Tryz.prog 13 #[.pointer (some ⟨b, 0, none⟩)] w fun r w' => r = .returned (.string (strOfNums (packed e.bits))) ∧ w = w' :=
  eng_bytes b tb sb ov e w h.is
theorem enc_new {w0 w : World} (ha : Asc w0) (ho : Only [] w0 w) (v : Value) (xs : List Int) (hv : IntSlice w v xs) (hl : xs.length ≤ 17592186044414) :
    Calls Tryz.prog 4 #[v] w fun r w' => ∃ b tb sb, r = .returned (.pointer (some ⟨b, 0, none⟩)) ∧ EncAt w0 w' b tb sb (.slice none 0 0) (Enc.new xs) ∧ Only [] w w' ∧ w.heap.size ≤ b ∧ w.heap.size ≤ tb ∧ w.heap.size ≤ sb := by
  refine (eng_new v xs w hv hl (ha.only ho (by simp))).mono ?_
  rintro r w' ⟨b, tb, sb, rfl, h1, h2, h3, h4, h5⟩
  have hs := ho.size
  exact ⟨b, tb, sb, rfl, ⟨h1, Enc.good_new xs, ho.trans h2, by omega, by omega, by omega, fun g hg => by simp [Value.ownBlock] at hg⟩, h2, h3, h4, h5⟩

/-- An owned row of ints reads as a slice of ints. -/
theorem IntSlice.of_owned {w : World} {B : Nat} {e : TypeId} {v : Value} {xs : List Int} (h : w.ownsRow B e 1 v xs.length (xs.map (Value.int .i64))) : IntSlice w v xs := by
  rcases h.2 with ⟨rfl, h0⟩ | ⟨g, cap, cur, rfl, _⟩
  · have : xs = [] := List.eq_nil_of_length_eq_zero h0
    subst this
    exact ⟨_, _, rfl, .inl rfl⟩
  · refine ⟨_, _, rfl, .inr ⟨g, 0, rfl, fun i hi => ?_⟩⟩
    rw [Nat.zero_add, h.cellAt i (by omega)]
    simp [List.getD, List.getElem?_eq_getElem hi]
/-- The decoder d stands in blocks that are new since w0. -/
structure DecAt (w0 w : World) (b tb sb : Nat) (d : Dec) : Prop where
  is : DecIs w b tb sb d
  ok : d.Ok
  on : Only [] w0 w
  hb : w0.heap.size ≤ b
  htb : w0.heap.size ≤ tb
  hsb : w0.heap.size ≤ sb
theorem DecAt.go {w0 w w' : World} {b tb sb : Nat} {d d' : Dec} (h : DecAt w0 w b tb sb d) (hi : DecIs w' b tb sb d') (hg : Only [b, sb] w w') (hok : d'.Ok) : DecAt w0 w' b tb sb d' := by
  refine ⟨hi, hok, h.on.trans' hg ?_, h.hb, h.htb, h.hsb⟩
  intro i hi
  simp only [List.mem_cons, List.not_mem_nil, or_false] at hi
  rcases hi with rfl | rfl
  · exact .inr h.hb
  · exact .inr h.hsb
theorem DecAt.only {w0 w w' : World} {b tb sb : Nat} {d : Dec} {S : List Nat} (h : DecAt w0 w b tb sb d) (ho : Only S w w') (hS : ∀ i ∈ S, w0.heap.size ≤ i) (h1 : b ∉ S) (h2 : tb ∉ S) (h3 : sb ∉ S) : DecAt w0 w' b tb sb d :=
  ⟨h.is.only ho h1 h2 h3, h.ok, h.on.trans' ho (fun i hi => .inr (hS i hi)), h.hb, h.htb, h.hsb⟩
theorem DecAt.drewN {w0 w : World} {b tb sb : Nat} {d : Dec} (h : DecAt w0 w b tb sb d) (n : Nat) : DecAt w0 (w.drewN n) b tb sb d := ⟨h.is.drewN n, h.ok, h.on.drewN n, h.hb, h.htb, h.hsb⟩
theorem DecAt.bin {w0 w : World} {b tb sb : Nat} {d : Dec} (h : DecAt w0 w b tb sb d) (c : Int) (hs : d.s.size ≤ 140737488355328) :
    Calls Tryz.prog 111 #[.pointer (some ⟨b, 0, none⟩), .int .i64 c] w fun r w' => r = .returned (.tuple #[.int .i64 (d.bin c).1, .int .i64 (d.bin c).2.1]) ∧ DecAt w0 w' b tb sb (d.bin c).2.2 ∧ Only [b, sb] w w' := by
  refine (eng_dbin b tb sb d c w h.is h.ok hs).mono ?_
  rintro r w' ⟨rfl, h1, h2⟩
  exact ⟨rfl, h.go h1 h2 (d.ok_bin c h.ok), h2⟩
theorem DecAt.bypass {w0 w : World} {b tb sb : Nat} {d : Dec} (h : DecAt w0 w b tb sb d) (hs : d.s.size ≤ 140737488355328) :
    Calls Tryz.prog 75 #[.pointer (some ⟨b, 0, none⟩)] w fun r w' => r = .returned (.tuple #[.int .i64 d.bypass.1, .int .i64 d.bypass.2.1]) ∧ DecAt w0 w' b tb sb d.bypass.2.2 ∧ Only [b, sb] w w' := by
  refine (eng_dbypass b tb sb d w h.is h.ok hs).mono ?_
  rintro r w' ⟨rfl, h1, h2⟩
  exact ⟨rfl, h.go h1 (h2.mono (by simp)) (d.ok_bypass h.ok), h2.mono (by simp)⟩
theorem DecAt.states {w0 w : World} {b tb sb : Nat} {d : Dec} (h : DecAt w0 w b tb sb d) (hl : d.st.length < 17592186044415) :
    Calls Tryz.prog 50 #[.pointer (some ⟨b, 0, none⟩)] w fun r w' => ∃ v, r = .returned v ∧ w'.ownsRow w.heap.size 3 1 v d.st.length (d.st.map (Value.int .i64)) ∧ DecAt w0 w' b tb sb d ∧ Only [] w w' := by
  refine (eng_dstates b tb sb d w h.is hl).mono ?_
  rintro r w' ⟨v, rfl, h1, h2⟩
  exact ⟨v, rfl, h1, h.only h2 (by simp) (by simp) (by simp) (by simp), h2⟩
theorem dec_new {w0 w : World} (ha : Asc w0) (ho : Only [] w0 w) (s : ByteArray) (v : Value) (xs : List Int) (hv : IntSlice w v xs) (hl : xs.length ≤ 17592186044414) (hs : s.size ≤ 140737488355328) :
    Calls Tryz.prog 32 #[.string s, v] w fun r w' => ∃ b tb sb, r = .returned (.tuple #[beginPtr s b, .int .i64 (beginCode s)]) ∧ (beginCode s = 0 → DecAt w0 w' b tb sb (Dec.begin s xs)) ∧ Only [] w w' ∧ w.heap.size ≤ b ∧ w.heap.size ≤ tb ∧ w.heap.size ≤ sb := by
  refine (eng_dnew s v xs w hv hl (ha.only ho (by simp)) hs).mono ?_
  rintro r w' ⟨b, tb, sb, rfl, h1, h2, h3, h4, h5⟩
  have hz := ho.size
  exact ⟨b, tb, sb, rfl, fun h0 => ⟨h1 h0, beginOk s xs h0, ho.trans h2, by omega, by omega, by omega⟩, h2, h3, h4, h5⟩
theorem EncAt.low {w0 w : World} {b tb sb : Nat} {ov : Value} {e : Enc} (h : EncAt w0 w b tb sb ov e) : b < w.heap.size ∧ tb < w.heap.size ∧ sb < w.heap.size ∧ ∀ g, ov.ownBlock = some g → g < w.heap.size :=
  ⟨lt_of_block h.is.cells, lt_of_block h.is.tab, lt_of_block h.is.sts, fun _ hg => by obtain ⟨c, hc⟩ := ownsRow_block h.is.out hg; exact lt_of_block hc⟩
/-- An encoder stays where only blocks from M on change, M above its own. -/
theorem EncAt.past {w0 w w' : World} {b tb sb M : Nat} {ov : Value} {e : Enc} {S : List Nat} (h : EncAt w0 w b tb sb ov e) (hl : b < M ∧ tb < M ∧ sb < M ∧ ∀ g, ov.ownBlock = some g → g < M) (hM : w0.heap.size ≤ M)
    (ho : Only S w w') (hS : ∀ i ∈ S, M ≤ i) : EncAt w0 w' b tb sb ov e :=
  h.only ho (fun i hi => Nat.le_trans hM (hS i hi)) (fun hi => by have := hS _ hi; omega) (fun hi => by have := hS _ hi; omega) (fun hi => by have := hS _ hi; omega) (fun g hg hi => by have := hS _ hi; have := hl.2.2.2 g hg; omega)
end Go.Proofs.YtgmnkihldlajcaaGreatDoor
