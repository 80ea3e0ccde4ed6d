/-
  A coder of package sig: it writes acts, or reads them; one relation for both ways. The walks over element, sign, flag.
-/
import Derived.Test.YtgmnkihldlajcaaGreatDoorSigSpec
import Derived.Test.YtgmnkihldlajcaaGreatDoorPutA
import Derived.Test.YtgmnkihldlajcaaGreatDoorGetC
namespace Go.Proofs.YtgmnkihldlajcaaGreatDoor
open Go.RowKit

/-- The coder's two pointers. -/
def coderCells (m : Bool) (b : Nat) : Array Value := if m then #[.pointer (some ⟨b, 0, none⟩), .pointer none] else #[.pointer none, .pointer (some ⟨b, 0, none⟩)]
/-- What a coder still has to go over: the acts os; behind them the encoder is eEnd, the decoder dEnd. wP: the world in which the call began. -/
structure Coding (w0 wP w : World) (m : Bool) (ck b tb sb : Nat) (ovP : Value) (eEnd : Enc) (dEnd : Dec) (os : List Deed) : Prop where
  cell : w.heap[ck]? = some (.cells (coderCells m b) 70 (0, 0))
  base : w0.heap.size ≤ wP.heap.size
  lck : wP.heap.size ≤ ck
  lsb : sb < wP.heap.size
  run : (m = true ∧ ∃ ov e, EncAt w0 w b tb sb ov e ∧ EncGo wP w b sb ovP ov ∧ e.Live ∧ e.st.length = 256 ∧ e.cost + 8 * os.length < 500000000 ∧ (∀ o ∈ os, o.fits 256) ∧ e.run os = eEnd) ∨
    (m = false ∧ ∃ d, DecAt w0 w b tb sb d ∧ Only [b, sb] wP w ∧ d.s.size ≤ 140737488355328 ∧ d.gives os dEnd)

/-- Stores into a block of ints that the call has made, and new blocks, leave it. -/
theorem Coding.past {w0 wP w w' : World} {m : Bool} {ck b tb sb : Nat} {ovP : Value} {eEnd : Enc} {dEnd : Dec} {os : List Deed} {S : List Nat} (h : Coding w0 wP w m ck b tb sb ovP eEnd dEnd os) (ho : Only S w w')
    (hS : ∀ i ∈ S, wP.heap.size ≤ i ∧ ∃ cs, w.heap[i]? = some (.cells cs 3 (0, 0))) : Coding w0 wP w' m ck b tb sb ovP eEnd dEnd os := by
  have hk : ck ∉ S := fun hi => by obtain ⟨_, c, hc⟩ := hS ck hi; exact block_type hc h.cell (by decide) rfl
  have hs : sb ∉ S := fun hi => by have := (hS sb hi).1; have := h.lsb; omega
  have hb := h.base
  refine ⟨ho.heap h.cell hk, h.base, h.lck, h.lsb, ?_⟩
  rcases h.run with ⟨hm, ov, e, h1, h2, h3⟩ | ⟨hm, d, h1, h2, h3⟩
  · refine .inl ⟨hm, ov, e, h1.only ho (fun i hi => by have := (hS i hi).1; omega) ?_ ?_ hs ?_, ⟨h2.only.trans' ho (fun i hi => .inr (hS i hi).1), h2.new⟩, h3⟩
    · exact fun hi => by obtain ⟨_, c, hc⟩ := hS b hi; exact block_type hc h1.is.cells (by decide) rfl
    · exact fun hi => by obtain ⟨_, c, hc⟩ := hS tb hi; exact block_type hc h1.is.tab (by decide) rfl
    · exact fun g hg hi => by
        obtain ⟨_, c, hc⟩ := hS g hi
        obtain ⟨c2, hc2⟩ := ownsRow_block h1.is.out hg
        exact block_type hc hc2 (by decide) rfl
  · refine .inr ⟨hm, d, h1.only ho (fun i hi => by have := (hS i hi).1; omega) ?_ ?_ hs, h2.trans' ho (fun i hi => .inr (hS i hi).1), h3⟩
    · exact fun hi => by obtain ⟨_, c, hc⟩ := hS b hi; exact block_type hc h1.is.cells (by decide) rfl
    · exact fun hi => by obtain ⟨_, c, hc⟩ := hS tb hi; exact block_type hc h1.is.tab (by decide) rfl
/-- So does a store into an error's cell. -/
theorem Coding.pastE {w0 wP w w' : World} {m : Bool} {ck b tb sb k : Nat} {ovP : Value} {eEnd : Enc} {dEnd : Dec} {os : List Deed} {cs : Array Value} (h : Coding w0 wP w m ck b tb sb ovP eEnd dEnd os) (ho : Only [k] w w')
    (hk : wP.heap.size ≤ k) (hc : w.heap[k]? = some (.cells cs 32 (0, 0))) : Coding w0 wP w' m ck b tb sb ovP eEnd dEnd os := by
  have hb := h.base
  have n0 : ck ∉ [k] := by simp only [List.mem_singleton]; exact Ne.symm (block_type hc h.cell (by decide))
  refine ⟨ho.heap h.cell n0, h.base, h.lck, h.lsb, ?_⟩
  rcases h.run with ⟨hm, ov, e, h1, h2, h3⟩ | ⟨hm, d, h1, h2, h3⟩
  · refine .inl ⟨hm, ov, e, h1.only ho (fun i hi => by simp at hi; omega) ?_ ?_ ?_ ?_, ⟨h2.only.trans' ho (fun i hi => by simp at hi; omega), h2.new⟩, h3⟩
    · simp only [List.mem_singleton]; exact Ne.symm (block_type hc h1.is.cells (by decide))
    · simp only [List.mem_singleton]; exact Ne.symm (block_type hc h1.is.tab (by decide))
    · simp only [List.mem_singleton]; exact Ne.symm (block_type hc h1.is.sts (by decide))
    · intro g hg
      obtain ⟨c2, hc2⟩ := ownsRow_block h1.is.out hg
      simp only [List.mem_singleton]; exact Ne.symm (block_type hc hc2 (by decide))
  · refine .inr ⟨hm, d, h1.only ho (fun i hi => by simp at hi; omega) ?_ ?_ ?_, h2.trans' ho (fun i hi => by simp at hi; omega), h3⟩
    · simp only [List.mem_singleton]; exact Ne.symm (block_type hc h1.is.cells (by decide))
    · simp only [List.mem_singleton]; exact Ne.symm (block_type hc h1.is.tab (by decide))
    · simp only [List.mem_singleton]; exact Ne.symm (block_type hc h1.is.sts (by decide))
theorem Coding.only {w0 wP w w' : World} {m : Bool} {ck b tb sb : Nat} {ovP : Value} {eEnd : Enc} {dEnd : Dec} {os : List Deed} (h : Coding w0 wP w m ck b tb sb ovP eEnd dEnd os) (ho : Only [] w w') : Coding w0 wP w' m ck b tb sb ovP eEnd dEnd os :=
  h.past ho (by simp)
theorem Coding.drew {w0 wP w : World} {m : Bool} {ck b tb sb : Nat} {ovP : Value} {eEnd : Enc} {dEnd : Dec} {os : List Deed} (h : Coding w0 wP w m ck b tb sb ovP eEnd dEnd os) : Coding w0 wP w.drew m ck b tb sb ovP eEnd dEnd os := h.only (Only.refl [] w).drew
theorem Coding.drewN {w0 wP w : World} {m : Bool} {ck b tb sb : Nat} {ovP : Value} {eEnd : Enc} {dEnd : Dec} {os : List Deed} (h : Coding w0 wP w m ck b tb sb ovP eEnd dEnd os) (n : Nat) : Coding w0 wP (w.drewN n) m ck b tb sb ovP eEnd dEnd os := h.only ((Only.refl [] w).drewN n)

/-- What a step of a coder leaves: blocks of ints but the engine's states; errors' cells. -/
def Calm (w w' : World) : Prop := ∀ (k : Nat) (cs : Array Value), w.heap[k]? = some (Obj.cells cs 32 (0, 0)) → w'.heap[k]? = some (Obj.cells cs 32 (0, 0))
def Spare (sb : Nat) (w w' : World) : Prop := w.heap.size ≤ w'.heap.size ∧ (∀ (k : Nat) (cs : Array Value), w.heap[k]? = some (Obj.cells cs 3 (0, 0)) → k ≠ sb → w'.heap[k]? = some (Obj.cells cs 3 (0, 0))) ∧ Calm w w'
theorem Spare.trans {sb : Nat} {a b c : World} (h : Spare sb a b) (k : Spare sb b c) : Spare sb a c :=
  ⟨Nat.le_trans h.1 k.1, fun i cs hi hs => k.2.1 i cs (h.2.1 i cs hi hs) hs, fun i cs hi => k.2.2 i cs (h.2.2 i cs hi)⟩
theorem Spare.row {sb B n : Nat} {w w' : World} {v : Value} {xs : List Value} (h : Spare sb w w') (ho : w.ownsRow B 3 1 v n xs) (hB : sb < B) : w'.ownsRow B 3 1 v n xs := by
  refine ownsRow_of_block ho fun g hg => ?_
  obtain ⟨c, hc⟩ := ownsRow_block ho hg
  have hb : B ≤ g := by
    rcases ho.2 with ⟨rfl, _⟩ | ⟨g', cap, cur, rfl, hb, _⟩
    · simp [Value.ownBlock] at hg
    · simp [Value.ownBlock] at hg; subst hg; exact hb
  rw [hc]
  exact h.2.1 g c hc (by omega)
theorem Spare.of_enc {w0 w w' : World} {b tb sb : Nat} {ov ov' : Value} {e : Enc} (h : EncAt w0 w b tb sb ov e) (hg : EncGo w w' b sb ov ov') : Spare sb w w' := by
  refine ⟨hg.only.size, fun k cs hk hs => hg.only.heap hk ?_, fun k cs hk => hg.only.heap hk ?_⟩
  · simp only [List.mem_cons, Option.mem_toList, not_or]
    exact ⟨block_type hk h.is.cells (by decide), hs, fun hi => by obtain ⟨c, hc⟩ := ownsRow_block h.is.out hi; exact block_type hk hc (by decide) rfl⟩
  · simp only [List.mem_cons, Option.mem_toList, not_or]
    exact ⟨block_type hk h.is.cells (by decide), block_type hk h.is.sts (by decide), fun hi => by obtain ⟨c, hc⟩ := ownsRow_block h.is.out hi; exact block_type hk hc (by decide) rfl⟩
theorem Spare.of_dec {w0 w w' : World} {b tb sb : Nat} {d : Dec} (h : DecAt w0 w b tb sb d) (hg : Only [b, sb] w w') : Spare sb w w' := by
  refine ⟨hg.size, fun k cs hk hs => hg.heap hk ?_, fun k cs hk => hg.heap hk ?_⟩
  · simp only [List.mem_cons, List.not_mem_nil, or_false, not_or]
    exact ⟨block_type hk h.is.cells (by decide), hs⟩
  · simp only [List.mem_cons, List.not_mem_nil, or_false, not_or]
    exact ⟨block_type hk h.is.cells (by decide), block_type hk h.is.sts (by decide)⟩

theorem Enc.run_gone (e : Enc) (a b : List Deed) (h : e.Live) (hst : e.st.length = 256) (hf : ∀ o ∈ a ++ b, o.fits 256) (hc : e.cost + 8 * (a ++ b).length < 500000000) :
    (e.run a).Live ∧ (e.run a).st.length = 256 ∧ (e.run a).cost + 8 * b.length < 500000000 ∧ (e.run a).run b = e.run (a ++ b) := by
  have h1 := e.live_run a h (fun o ho => by rw [hst]; exact hf o (by simp [ho]))
  rw [List.length_append] at hc
  exact ⟨h1.1, h1.2.1.trans hst, by have := h1.2.2; omega, by rw [Enc.run_append]⟩

theorem sig_flag (x : Bool) (w : World) : Calls Tryz.prog 57 #[.bool x] w fun r w' => r = .returned (.int .i64 (flagOf x)) ∧ w = w' := by
  go_enter Tryz.func57, Tryz.ntmps57
  cases x
  · go_wp2
    go_ret
    exact ⟨rfl, rfl⟩
  · go_wp2
    go_ret
    exact ⟨rfl, rfl⟩

set_option maxRecDepth 100000 in
set_option maxHeartbeats 1600000 in
theorem sig_element {w0 wP w : World} {m : Bool} {ck b tb sb : Nat} {ovP : Value} {eEnd : Enc} {dEnd : Dec} {os : List Deed} (el inc v u : Int) (h : Coding w0 wP w m ck b tb sb ovP eEnd dEnd (elemDeeds el inc v 1 ++ os)) (hb : bitsE el v 1 = 0) (i0 : 0 ≤ inc) (i1 : inc ≤ 7) (hu : m = true → u = v) :
    Calls Tryz.prog 56 #[.pointer (some ⟨ck, 0, none⟩), .int .i64 el, .int .i64 inc, .int .i64 u] w fun r w' => r = .returned (.int .i64 v) ∧ Coding w0 wP w' m ck b tb sb ovP eEnd dEnd os ∧ Spare sb w w' := by
  rcases h.run with ⟨rfl, ov, e, h1, h2, h3, h4, h5, h6, h7⟩ | ⟨rfl, d, h1, h2, h3, h4⟩
  · obtain rfl : u = v := hu rfl
    have c0 : w.cell? ⟨ck, 0, none⟩ = some (.pointer (some ⟨b, 0, none⟩)) := by rw [cells_of h.cell]; rfl
    obtain ⟨l1, l2, l3, l4⟩ := e.run_gone _ _ h3 h4 h6 h5
    have hel : e.elem el inc u 1 = (0, e.run (elemDeeds el inc u 1)) := by rw [e.elem_live _ _ _ _ h3 h4, if_pos ⟨hb, i0, i1⟩]
    have hcost : e.cost < 600000000 := by omega
    have Hn := Lib.hid hcost
    have H := Lib.hid h
    have H1 := Lib.hid h1
    have H2 := Lib.hid h2
    have H6 := Lib.hid h6
    have Hel := Lib.hid hel
    have Hl := Lib.hid (show (e.run (elemDeeds el inc u 1)).run os = eEnd from l4.trans h7)
    have L1 := Lib.hid l1
    have L2 := Lib.hid l2
    have L3 := Lib.hid l3
    clear h h1 h2 h3 h4 h5 h6 h7 hel hcost l1 l2 l3 l4 hu
    go_enter Tryz.func56, Tryz.ntmps56
    go_wp2_with fail
    refine (bins_put H1.out Hn.out el inc u 1).mono ?_
    rintro r w1 ⟨rfl, ov1, g1, g2⟩
    rw [Hel.out] at g1 ⊢
    have hck : ck ∉ b :: sb :: ov.ownBlock.toList := by
      simp only [List.mem_cons, Option.mem_toList, not_or]
      exact ⟨block_type H.out.cell H1.out.is.cells (by decide), block_type H.out.cell H1.out.is.sts (by decide), fun hi => by obtain ⟨c, hc⟩ := ownsRow_block H1.out.is.out hi; exact block_type H.out.cell hc (by decide) rfl⟩
    have K := Lib.hid (show Coding w0 wP w1 true ck b tb sb ovP eEnd dEnd os from
      ⟨g2.only.heap H.out.cell hck, H.out.base, H.out.lck, H.out.lsb, .inl ⟨rfl, ov1, _, g1, H2.out.trans g2, L1.out, L2.out, L3.out, fun o ho => H6.out o (by simp [ho]), Hl.out⟩⟩)
    have Sp := Lib.hid (Spare.of_enc H1.out g2)
    clear g1 g2 hck
    go_wp2
    go_ret
    exact ⟨rfl, K.out, Sp.out⟩
  · have c0 : w.cell? ⟨ck, 0, none⟩ = some (.pointer none) := by rw [cells_of h.cell]; rfl
    have c1 : w.cell? ⟨ck, 1, none⟩ = some (.pointer (some ⟨b, 0, none⟩)) := by rw [cells_of h.cell]; rfl
    obtain ⟨d1, q1, q2⟩ := Dec.gives_append _ _ d dEnd h4
    have hds : d1.s.size ≤ 140737488355328 := by rw [Dec.gives_s _ d d1 q1]; exact h3
    have H := Lib.hid h
    have H1 := Lib.hid h1
    have H2 := Lib.hid h2
    have Q1 := Lib.hid q1
    have Q2 := Lib.hid q2
    have Hds := Lib.hid hds
    clear h h1 h2 h4 q1 q2 hds hu
    go_enter Tryz.func56, Tryz.ntmps56
    go_wp2_with fail
    refine (bins_get H1.out el inc v 1 hb i0 i1 Q1.out h3).mono ?_
    rintro r w1 ⟨rfl, g1, g2⟩
    have hck : ck ∉ [b, sb] := by
      simp only [List.mem_cons, List.not_mem_nil, or_false, not_or]
      exact ⟨block_type H.out.cell H1.out.is.cells (by decide), block_type H.out.cell H1.out.is.sts (by decide)⟩
    have K := Lib.hid (show Coding w0 wP w1 false ck b tb sb ovP eEnd dEnd os from
      ⟨g2.heap H.out.cell hck, H.out.base, H.out.lck, H.out.lsb, .inr ⟨rfl, d1, g1, H2.out.trans g2, Hds.out, Q2.out⟩⟩)
    have Sp := Lib.hid (Spare.of_dec H1.out g2)
    clear g1 g2 hck
    go_wp2
    go_ret
    exact ⟨rfl, K.out, Sp.out⟩

set_option maxRecDepth 100000 in
set_option maxHeartbeats 1600000 in
theorem sig_sign {w0 wP w : World} {m : Bool} {ck b tb sb : Nat} {ovP : Value} {eEnd : Enc} {dEnd : Dec} {os : List Deed} (v u : Int) (h : Coding w0 wP w m ck b tb sb ovP eEnd dEnd (.byp v :: os)) (hv : v = 0 ∨ v = 1) (hu : m = true → u = v) :
    Calls Tryz.prog 59 #[.pointer (some ⟨ck, 0, none⟩), .int .i64 u] w fun r w' => r = .returned (.int .i64 v) ∧ Coding w0 wP w' m ck b tb sb ovP eEnd dEnd os ∧ Spare sb w w' := by
  rcases h.run with ⟨rfl, ov, e, h1, h2, h3, h4, h5, h6, h7⟩ | ⟨rfl, d, h1, h2, h3, h4⟩
  · obtain rfl : u = v := hu rfl
    have c0 : w.cell? ⟨ck, 0, none⟩ = some (.pointer (some ⟨b, 0, none⟩)) := by rw [cells_of h.cell]; rfl
    obtain ⟨l1, l2, l3, l4⟩ := e.run_gone [.byp u] os h3 h4 h6 h5
    have hmay : e.may u = true := by unfold Enc.may; rw [h3.going]; simp; omega
    have hcost : e.cost < 700000000 := by omega
    have Hn := Lib.hid hcost
    have H := Lib.hid h
    have H1 := Lib.hid h1
    have H2 := Lib.hid h2
    have H6 := Lib.hid h6
    have Hm := Lib.hid hmay
    have Hl := Lib.hid (show (e.bypass u).run os = eEnd from l4.trans h7)
    have L1 := Lib.hid (show (e.bypass u).Live from l1)
    have L2 := Lib.hid (show (e.bypass u).st.length = 256 from l2)
    have L3 := Lib.hid (show (e.bypass u).cost + 8 * os.length < 500000000 from l3)
    clear h h1 h2 h3 h4 h5 h6 h7 hmay hcost l1 l2 l3 l4 hu
    go_enter Tryz.func59, Tryz.ntmps59
    go_wp2_with fail
    refine (H1.out.bypass u Hn.out).mono ?_
    rintro r w1 ⟨rfl, ov1, g1, g2⟩
    rw [Hm.out, show codeOf true = 0 from rfl]
    have hck : ck ∉ b :: sb :: ov.ownBlock.toList := by
      simp only [List.mem_cons, Option.mem_toList, not_or]
      exact ⟨block_type H.out.cell H1.out.is.cells (by decide), block_type H.out.cell H1.out.is.sts (by decide), fun hi => by obtain ⟨c, hc⟩ := ownsRow_block H1.out.is.out hi; exact block_type H.out.cell hc (by decide) rfl⟩
    have K := Lib.hid (show Coding w0 wP w1 true ck b tb sb ovP eEnd dEnd os from
      ⟨g2.only.heap H.out.cell hck, H.out.base, H.out.lck, H.out.lsb, .inl ⟨rfl, ov1, _, g1, H2.out.trans g2, L1.out, L2.out, L3.out, fun o ho => H6.out o (by simp [ho]), Hl.out⟩⟩)
    have Sp := Lib.hid (Spare.of_enc H1.out g2)
    clear g1 g2 hck
    go_wp2
    go_ret
    exact ⟨rfl, K.out, Sp.out⟩
  · have c0 : w.cell? ⟨ck, 0, none⟩ = some (.pointer none) := by rw [cells_of h.cell]; rfl
    have c1 : w.cell? ⟨ck, 1, none⟩ = some (.pointer (some ⟨b, 0, none⟩)) := by rw [cells_of h.cell]; rfl
    obtain ⟨d1, q1, q2, q3⟩ := h4
    have hds : d1.s.size ≤ 140737488355328 := by rw [q2]; exact h3
    have H := Lib.hid h
    have H1 := Lib.hid h1
    have H2 := Lib.hid h2
    have Q1 := Lib.hid (show d.bypass = (v, 0, d1) from q1)
    have Q2 := Lib.hid q3
    have Hds := Lib.hid hds
    clear h h1 h2 q1 q2 q3 hds hu
    go_enter Tryz.func59, Tryz.ntmps59
    go_wp2_with fail
    refine (H1.out.bypass h3).mono ?_
    rintro r w1 ⟨rfl, g1, g2⟩
    rw [Q1.out] at g1 ⊢
    have hck : ck ∉ [b, sb] := by
      simp only [List.mem_cons, List.not_mem_nil, or_false, not_or]
      exact ⟨block_type H.out.cell H1.out.is.cells (by decide), block_type H.out.cell H1.out.is.sts (by decide)⟩
    have K := Lib.hid (show Coding w0 wP w1 false ck b tb sb ovP eEnd dEnd os from
      ⟨g2.heap H.out.cell hck, H.out.base, H.out.lck, H.out.lsb, .inr ⟨rfl, d1, g1, H2.out.trans g2, Hds.out, Q2.out⟩⟩)
    have Sp := Lib.hid (Spare.of_dec H1.out g2)
    clear g1 g2 hck
    go_wp2
    go_ret
    exact ⟨rfl, K.out, Sp.out⟩
end Go.Proofs.YtgmnkihldlajcaaGreatDoor
