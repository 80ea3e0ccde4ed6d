/-
  A coder of package sig: it writes acts, or reads them; one relation for both ways. The walks over element, sign, flag. The walk over package sig's places.
-/
import Derived.Test.YtcppbdlmcbjmeaaGreatDoorJ05
import Derived.Test.YtcppbdlmcbjmeaaGreatDoorJ29
import Derived.Test.YtcppbdlmcbjmeaaGreatDoorJ31
namespace Go.Proofs.YtcppbdlmcbjmeaaGreatDoor
open Go.RowKit

/-- The coder's two pointers. -/
def coderCells (m : Bool) (b : Nat) : Array Value := if m then #[.pointer (some ⟨b, 0, none⟩), .pointer none] else #[.pointer none, .pointer (some ⟨b, 0, none⟩)]
/-- What a coder still has to go over: the acts os; behind them the encoder is eEnd, the decoder dEnd. wP: the world in which the call began. -/
structure Coding (w0 wP w : World) (m : Bool) (ck b tb sb : Nat) (ovP : Value) (eEnd : Enc) (dEnd : Dec) (os : List Deed) : Prop where
  cell : w.heap[ck]? = some (.cells (coderCells m b) 321 (0, 0))
  base : w0.heap.size ≤ wP.heap.size
  lck : wP.heap.size ≤ ck
  lsb : sb < wP.heap.size
  run : (m = true ∧ ∃ ov e, EncAt w0 w b tb sb ov e ∧ EncGo wP w b sb ovP ov ∧ e.Live ∧ e.st.length = 256 ∧ e.cost + 8 * os.length < 500000000 ∧ (∀ o ∈ os, o.fits 256) ∧ e.run os = eEnd) ∨
    (m = false ∧ ∃ d, DecAt w0 w b tb sb d ∧ Only [b, sb] wP w ∧ d.s.size ≤ 140737488355328 ∧ d.gives os dEnd)

/-- Stores into a block of ints that the call has made, and new blocks, leave it. -/
theorem Coding.past {w0 wP w w' : World} {m : Bool} {ck b tb sb : Nat} {ovP : Value} {eEnd : Enc} {dEnd : Dec} {os : List Deed} {S : List Nat} (h : Coding w0 wP w m ck b tb sb ovP eEnd dEnd os) (ho : Only S w w')
    (hS : ∀ i ∈ S, wP.heap.size ≤ i ∧ ∃ cs, w.heap[i]? = some (.cells cs 3 (0, 0))) : Coding w0 wP w' m ck b tb sb ovP eEnd dEnd os := by
  have hk : ck ∉ S := fun hi => by obtain ⟨_, c, hc⟩ := hS ck hi; exact block_type hc h.cell (by decide) rfl
  have hs : sb ∉ S := fun hi => by have := (hS sb hi).1; have := h.lsb; omega
  have hb := h.base
  refine ⟨ho.heap h.cell hk, h.base, h.lck, h.lsb, ?_⟩
  rcases h.run with ⟨hm, ov, e, h1, h2, h3⟩ | ⟨hm, d, h1, h2, h3⟩
  · refine .inl ⟨hm, ov, e, h1.only ho (fun i hi => by have := (hS i hi).1; omega) ?_ ?_ hs ?_, ⟨h2.only.trans' ho (fun i hi => .inr (hS i hi).1), h2.new⟩, h3⟩
    · exact fun hi => by obtain ⟨_, c, hc⟩ := hS b hi; exact block_type hc h1.is.cells (by decide) rfl
    · exact fun hi => by obtain ⟨_, c, hc⟩ := hS tb hi; exact block_type hc h1.is.tab (by decide) rfl
    · exact fun g hg hi => by
        obtain ⟨_, c, hc⟩ := hS g hi
        obtain ⟨c2, hc2⟩ := ownsRow_block h1.is.out hg
        exact block_type hc hc2 (by decide) rfl
  · refine .inr ⟨hm, d, h1.only ho (fun i hi => by have := (hS i hi).1; omega) ?_ ?_ hs, h2.trans' ho (fun i hi => .inr (hS i hi).1), h3⟩
    · exact fun hi => by obtain ⟨_, c, hc⟩ := hS b hi; exact block_type hc h1.is.cells (by decide) rfl
    · exact fun hi => by obtain ⟨_, c, hc⟩ := hS tb hi; exact block_type hc h1.is.tab (by decide) rfl
/-- So does a store into an error's cell. -/
theorem Coding.pastE {w0 wP w w' : World} {m : Bool} {ck b tb sb k : Nat} {ovP : Value} {eEnd : Enc} {dEnd : Dec} {os : List Deed} {cs : Array Value} (h : Coding w0 wP w m ck b tb sb ovP eEnd dEnd os) (ho : Only [k] w w')
    (hk : wP.heap.size ≤ k) (hc : w.heap[k]? = some (.cells cs 32 (0, 0))) : Coding w0 wP w' m ck b tb sb ovP eEnd dEnd os := by
  have hb := h.base
  have n0 : ck ∉ [k] := by simp only [List.mem_singleton]; exact Ne.symm (block_type hc h.cell (by decide))
  refine ⟨ho.heap h.cell n0, h.base, h.lck, h.lsb, ?_⟩
  rcases h.run with ⟨hm, ov, e, h1, h2, h3⟩ | ⟨hm, d, h1, h2, h3⟩
  · refine .inl ⟨hm, ov, e, h1.only ho (fun i hi => by simp at hi; omega) ?_ ?_ ?_ ?_, ⟨h2.only.trans' ho (fun i hi => by simp at hi; omega), h2.new⟩, h3⟩
    · simp only [List.mem_singleton]; exact Ne.symm (block_type hc h1.is.cells (by decide))
    · simp only [List.mem_singleton]; exact Ne.symm (block_type hc h1.is.tab (by decide))
    · simp only [List.mem_singleton]; exact Ne.symm (block_type hc h1.is.sts (by decide))
    · intro g hg
      obtain ⟨c2, hc2⟩ := ownsRow_block h1.is.out hg
      simp only [List.mem_singleton]; exact Ne.symm (block_type hc hc2 (by decide))
  · refine .inr ⟨hm, d, h1.only ho (fun i hi => by simp at hi; omega) ?_ ?_ ?_, h2.trans' ho (fun i hi => by simp at hi; omega), h3⟩
    · simp only [List.mem_singleton]; exact Ne.symm (block_type hc h1.is.cells (by decide))
    · simp only [List.mem_singleton]; exact Ne.symm (block_type hc h1.is.tab (by decide))
    · simp only [List.mem_singleton]; exact Ne.symm (block_type hc h1.is.sts (by decide))
theorem Coding.only {w0 wP w w' : World} {m : Bool} {ck b tb sb : Nat} {ovP : Value} {eEnd : Enc} {dEnd : Dec} {os : List Deed} (h : Coding w0 wP w m ck b tb sb ovP eEnd dEnd os) (ho : Only [] w w') : Coding w0 wP w' m ck b tb sb ovP eEnd dEnd os :=
  h.past ho (by simp)
theorem Coding.drew {w0 wP w : World} {m : Bool} {ck b tb sb : Nat} {ovP : Value} {eEnd : Enc} {dEnd : Dec} {os : List Deed} (h : Coding w0 wP w m ck b tb sb ovP eEnd dEnd os) : Coding w0 wP w.drew m ck b tb sb ovP eEnd dEnd os := h.only (Only.refl [] w).drew
theorem Coding.drewN {w0 wP w : World} {m : Bool} {ck b tb sb : Nat} {ovP : Value} {eEnd : Enc} {dEnd : Dec} {os : List Deed} (h : Coding w0 wP w m ck b tb sb ovP eEnd dEnd os) (n : Nat) : Coding w0 wP (w.drewN n) m ck b tb sb ovP eEnd dEnd os := h.only ((Only.refl [] w).drewN n)

/-- What a step of a coder leaves: blocks of ints but the engine's states; errors' cells. -/
def Calm (w w' : World) : Prop := ∀ (k : Nat) (cs : Array Value), w.heap[k]? = some (Obj.cells cs 32 (0, 0)) → w'.heap[k]? = some (Obj.cells cs 32 (0, 0))
def Spare (sb : Nat) (w w' : World) : Prop := w.heap.size ≤ w'.heap.size ∧ (∀ (k : Nat) (cs : Array Value), w.heap[k]? = some (Obj.cells cs 3 (0, 0)) → k ≠ sb → w'.heap[k]? = some (Obj.cells cs 3 (0, 0))) ∧ Calm w w'
theorem Spare.trans {sb : Nat} {a b c : World} (h : Spare sb a b) (k : Spare sb b c) : Spare sb a c :=
  ⟨Nat.le_trans h.1 k.1, fun i cs hi hs => k.2.1 i cs (h.2.1 i cs hi hs) hs, fun i cs hi => k.2.2 i cs (h.2.2 i cs hi)⟩
theorem Spare.row {sb B n : Nat} {w w' : World} {v : Value} {xs : List Value} (h : Spare sb w w') (ho : w.ownsRow B 3 1 v n xs) (hB : sb < B) : w'.ownsRow B 3 1 v n xs := by
  refine ownsRow_of_block ho fun g hg => ?_
  obtain ⟨c, hc⟩ := ownsRow_block ho hg
  have hb : B ≤ g := by
    rcases ho.2 with ⟨rfl, _⟩ | ⟨g', cap, cur, rfl, hb, _⟩
    · simp [Value.ownBlock] at hg
    · simp [Value.ownBlock] at hg; subst hg; exact hb
  rw [hc]
  exact h.2.1 g c hc (by omega)
theorem Spare.of_enc {w0 w w' : World} {b tb sb : Nat} {ov ov' : Value} {e : Enc} (h : EncAt w0 w b tb sb ov e) (hg : EncGo w w' b sb ov ov') : Spare sb w w' := by
  refine ⟨hg.only.size, fun k cs hk hs => hg.only.heap hk ?_, fun k cs hk => hg.only.heap hk ?_⟩
  · simp only [List.mem_cons, Option.mem_toList, not_or]
    exact ⟨block_type hk h.is.cells (by decide), hs, fun hi => by obtain ⟨c, hc⟩ := ownsRow_block h.is.out hi; exact block_type hk hc (by decide) rfl⟩
  · simp only [List.mem_cons, Option.mem_toList, not_or]
    exact ⟨block_type hk h.is.cells (by decide), block_type hk h.is.sts (by decide), fun hi => by obtain ⟨c, hc⟩ := ownsRow_block h.is.out hi; exact block_type hk hc (by decide) rfl⟩
theorem Spare.of_dec {w0 w w' : World} {b tb sb : Nat} {d : Dec} (h : DecAt w0 w b tb sb d) (hg : Only [b, sb] w w') : Spare sb w w' := by
  refine ⟨hg.size, fun k cs hk hs => hg.heap hk ?_, fun k cs hk => hg.heap hk ?_⟩
  · simp only [List.mem_cons, List.not_mem_nil, or_false, not_or]
    exact ⟨block_type hk h.is.cells (by decide), hs⟩
  · simp only [List.mem_cons, List.not_mem_nil, or_false, not_or]
    exact ⟨block_type hk h.is.cells (by decide), block_type hk h.is.sts (by decide)⟩

theorem Enc.run_gone (e : Enc) (a b : List Deed) (h : e.Live) (hst : e.st.length = 256) (hf : ∀ o ∈ a ++ b, o.fits 256) (hc : e.cost + 8 * (a ++ b).length < 500000000) :
    (e.run a).Live ∧ (e.run a).st.length = 256 ∧ (e.run a).cost + 8 * b.length < 500000000 ∧ (e.run a).run b = e.run (a ++ b) := by
  have h1 := e.live_run a h (fun o ho => by rw [hst]; exact hf o (by simp [ho]))
  rw [List.length_append] at hc
  exact ⟨h1.1, h1.2.1.trans hst, by have := h1.2.2; omega, by rw [Enc.run_append]⟩

theorem sig_flag (x : Bool) (w : World) : Calls Tryz.prog 241 #[.bool x] w fun r w' => r = .returned (.int .i64 (flagOf x)) ∧ w = w' := by
  go_enter Tryz.func241, Tryz.ntmps241
  cases x
  · go_wp2
    go_ret
    exact ⟨rfl, rfl⟩
  · go_wp2
    go_ret
    exact ⟨rfl, rfl⟩

set_option maxRecDepth 100000 in
set_option maxHeartbeats 1600000 in
theorem sig_element {w0 wP w : World} {m : Bool} {ck b tb sb : Nat} {ovP : Value} {eEnd : Enc} {dEnd : Dec} {os : List Deed} (el inc v u : Int) (h : Coding w0 wP w m ck b tb sb ovP eEnd dEnd (elemDeeds el inc v 1 ++ os)) (hb : bitsE el v 1 = 0) (i0 : 0 ≤ inc) (i1 : inc ≤ 7) (hu : m = true → u = v) :
    Calls Tryz.prog 240 #[.pointer (some ⟨ck, 0, none⟩), .int .i64 el, .int .i64 inc, .int .i64 u] w fun r w' => r = .returned (.int .i64 v) ∧ Coding w0 wP w' m ck b tb sb ovP eEnd dEnd os ∧ Spare sb w w' := by
  rcases h.run with ⟨rfl, ov, e, h1, h2, h3, h4, h5, h6, h7⟩ | ⟨rfl, d, h1, h2, h3, h4⟩
  · obtain rfl : u = v := hu rfl
    have c0 : w.cell? ⟨ck, 0, none⟩ = some (.pointer (some ⟨b, 0, none⟩)) := by rw [cells_of h.cell]; rfl
    obtain ⟨l1, l2, l3, l4⟩ := e.run_gone _ _ h3 h4 h6 h5
    have hel : e.elem el inc u 1 = (0, e.run (elemDeeds el inc u 1)) := by rw [e.elem_live _ _ _ _ h3 h4, if_pos ⟨hb, i0, i1⟩]
    have hcost : e.cost < 600000000 := by omega
    have Hn := Lib.hid hcost
    have H := Lib.hid h
    have H1 := Lib.hid h1
    have H2 := Lib.hid h2
    have H6 := Lib.hid h6
    have Hel := Lib.hid hel
    have Hl := Lib.hid (show (e.run (elemDeeds el inc u 1)).run os = eEnd from l4.trans h7)
    have L1 := Lib.hid l1
    have L2 := Lib.hid l2
    have L3 := Lib.hid l3
    clear h h1 h2 h3 h4 h5 h6 h7 hel hcost l1 l2 l3 l4 hu
    go_enter Tryz.func240, Tryz.ntmps240
    go_wp2_with fail
    refine (bins_put H1.out Hn.out el inc u 1).mono ?_
    rintro r w1 ⟨rfl, ov1, g1, g2⟩
    rw [Hel.out] at g1 ⊢
    have hck : ck ∉ b :: sb :: ov.ownBlock.toList := by
      simp only [List.mem_cons, Option.mem_toList, not_or]
      exact ⟨block_type H.out.cell H1.out.is.cells (by decide), block_type H.out.cell H1.out.is.sts (by decide), fun hi => by obtain ⟨c, hc⟩ := ownsRow_block H1.out.is.out hi; exact block_type H.out.cell hc (by decide) rfl⟩
    have K := Lib.hid (show Coding w0 wP w1 true ck b tb sb ovP eEnd dEnd os from
      ⟨g2.only.heap H.out.cell hck, H.out.base, H.out.lck, H.out.lsb, .inl ⟨rfl, ov1, _, g1, H2.out.trans g2, L1.out, L2.out, L3.out, fun o ho => H6.out o (by simp [ho]), Hl.out⟩⟩)
    have Sp := Lib.hid (Spare.of_enc H1.out g2)
    clear g1 g2 hck
    go_wp2
    go_ret
    exact ⟨rfl, K.out, Sp.out⟩
  · have c0 : w.cell? ⟨ck, 0, none⟩ = some (.pointer none) := by rw [cells_of h.cell]; rfl
    have c1 : w.cell? ⟨ck, 1, none⟩ = some (.pointer (some ⟨b, 0, none⟩)) := by rw [cells_of h.cell]; rfl
    obtain ⟨d1, q1, q2⟩ := Dec.gives_append _ _ d dEnd h4
    have hds : d1.s.size ≤ 140737488355328 := by rw [Dec.gives_s _ d d1 q1]; exact h3
    have H := Lib.hid h
    have H1 := Lib.hid h1
    have H2 := Lib.hid h2
    have Q1 := Lib.hid q1
    have Q2 := Lib.hid q2
    have Hds := Lib.hid hds
    clear h h1 h2 h4 q1 q2 hds hu
    go_enter Tryz.func240, Tryz.ntmps240
    go_wp2_with fail
    refine (bins_get H1.out el inc v 1 hb i0 i1 Q1.out h3).mono ?_
    rintro r w1 ⟨rfl, g1, g2⟩
    have hck : ck ∉ [b, sb] := by
      simp only [List.mem_cons, List.not_mem_nil, or_false, not_or]
      exact ⟨block_type H.out.cell H1.out.is.cells (by decide), block_type H.out.cell H1.out.is.sts (by decide)⟩
    have K := Lib.hid (show Coding w0 wP w1 false ck b tb sb ovP eEnd dEnd os from
      ⟨g2.heap H.out.cell hck, H.out.base, H.out.lck, H.out.lsb, .inr ⟨rfl, d1, g1, H2.out.trans g2, Hds.out, Q2.out⟩⟩)
    have Sp := Lib.hid (Spare.of_dec H1.out g2)
    clear g1 g2 hck
    go_wp2
    go_ret
    exact ⟨rfl, K.out, Sp.out⟩

set_option maxRecDepth 100000 in
set_option maxHeartbeats 1600000 in
theorem sig_sign {w0 wP w : World} {m : Bool} {ck b tb sb : Nat} {ovP : Value} {eEnd : Enc} {dEnd : Dec} {os : List Deed} (v u : Int) (h : Coding w0 wP w m ck b tb sb ovP eEnd dEnd (.byp v :: os)) (hv : v = 0 ∨ v = 1) (hu : m = true → u = v) :
    Calls Tryz.prog 243 #[.pointer (some ⟨ck, 0, none⟩), .int .i64 u] w fun r w' => r = .returned (.int .i64 v) ∧ Coding w0 wP w' m ck b tb sb ovP eEnd dEnd os ∧ Spare sb w w' := by
  rcases h.run with ⟨rfl, ov, e, h1, h2, h3, h4, h5, h6, h7⟩ | ⟨rfl, d, h1, h2, h3, h4⟩
  · obtain rfl : u = v := hu rfl
    have c0 : w.cell? ⟨ck, 0, none⟩ = some (.pointer (some ⟨b, 0, none⟩)) := by rw [cells_of h.cell]; rfl
    obtain ⟨l1, l2, l3, l4⟩ := e.run_gone [.byp u] os h3 h4 h6 h5
    have hmay : e.may u = true := by unfold Enc.may; rw [h3.going]; simp; omega
    have hcost : e.cost < 700000000 := by omega
    have Hn := Lib.hid hcost
    have H := Lib.hid h
    have H1 := Lib.hid h1
    have H2 := Lib.hid h2
    have H6 := Lib.hid h6
    have Hm := Lib.hid hmay
    have Hl := Lib.hid (show (e.bypass u).run os = eEnd from l4.trans h7)
    have L1 := Lib.hid (show (e.bypass u).Live from l1)
    have L2 := Lib.hid (show (e.bypass u).st.length = 256 from l2)
    have L3 := Lib.hid (show (e.bypass u).cost + 8 * os.length < 500000000 from l3)
    clear h h1 h2 h3 h4 h5 h6 h7 hmay hcost l1 l2 l3 l4 hu
    go_enter Tryz.func243, Tryz.ntmps243
    go_wp2_with fail
    refine (H1.out.bypass u Hn.out).mono ?_
    rintro r w1 ⟨rfl, ov1, g1, g2⟩
    rw [Hm.out, show codeOf true = 0 from rfl]
    have hck : ck ∉ b :: sb :: ov.ownBlock.toList := by
      simp only [List.mem_cons, Option.mem_toList, not_or]
      exact ⟨block_type H.out.cell H1.out.is.cells (by decide), block_type H.out.cell H1.out.is.sts (by decide), fun hi => by obtain ⟨c, hc⟩ := ownsRow_block H1.out.is.out hi; exact block_type H.out.cell hc (by decide) rfl⟩
    have K := Lib.hid (show Coding w0 wP w1 true ck b tb sb ovP eEnd dEnd os from
      ⟨g2.only.heap H.out.cell hck, H.out.base, H.out.lck, H.out.lsb, .inl ⟨rfl, ov1, _, g1, H2.out.trans g2, L1.out, L2.out, L3.out, fun o ho => H6.out o (by simp [ho]), Hl.out⟩⟩)
    have Sp := Lib.hid (Spare.of_enc H1.out g2)
    clear g1 g2 hck
    go_wp2
    go_ret
    exact ⟨rfl, K.out, Sp.out⟩
  · have c0 : w.cell? ⟨ck, 0, none⟩ = some (.pointer none) := by rw [cells_of h.cell]; rfl
    have c1 : w.cell? ⟨ck, 1, none⟩ = some (.pointer (some ⟨b, 0, none⟩)) := by rw [cells_of h.cell]; rfl
    obtain ⟨d1, q1, q2, q3⟩ := h4
    have hds : d1.s.size ≤ 140737488355328 := by rw [q2]; exact h3
    have H := Lib.hid h
    have H1 := Lib.hid h1
    have H2 := Lib.hid h2
    have Q1 := Lib.hid (show d.bypass = (v, 0, d1) from q1)
    have Q2 := Lib.hid q3
    have Hds := Lib.hid hds
    clear h h1 h2 q1 q2 q3 hds hu
    go_enter Tryz.func243, Tryz.ntmps243
    go_wp2_with fail
    refine (H1.out.bypass h3).mono ?_
    rintro r w1 ⟨rfl, g1, g2⟩
    rw [Q1.out] at g1 ⊢
    have hck : ck ∉ [b, sb] := by
      simp only [List.mem_cons, List.not_mem_nil, or_false, not_or]
      exact ⟨block_type H.out.cell H1.out.is.cells (by decide), block_type H.out.cell H1.out.is.sts (by decide)⟩
    have K := Lib.hid (show Coding w0 wP w1 false ck b tb sb ovP eEnd dEnd os from
      ⟨g2.heap H.out.cell hck, H.out.base, H.out.lck, H.out.lsb, .inr ⟨rfl, d1, g1, H2.out.trans g2, Hds.out, Q2.out⟩⟩)
    have Sp := Lib.hid (Spare.of_dec H1.out g2)
    clear g1 g2 hck
    go_wp2
    go_ret
    exact ⟨rfl, K.out, Sp.out⟩
end Go.Proofs.YtcppbdlmcbjmeaaGreatDoor

namespace Go.Proofs.YtcppbdlmcbjmeaaGreatDoor
open Go.RowKit

/-- A row of ints in a block that the call has made. -/
def MemAt (w : World) (mb n : Nat) (mem : List Int) : Prop := ∃ cur, w.heap[mb]? = some (.cells cur 3 (0, 0)) ∧ ∀ i, i < n → cur[i]? = some (.int .i64 (mem.getD i 0))
theorem MemAt.cell {w : World} {mb n : Nat} {mem : List Int} (h : MemAt w mb n mem) (i : Nat) (hi : i < n) : w.cell? ⟨mb, i, none⟩ = some (.int .i64 (mem.getD i 0)) := by
  obtain ⟨cur, h1, h2⟩ := h
  rw [cells_of h1]
  exact h2 i hi
theorem MemAt.free {w : World} {mb n : Nat} {mem : List Int} (h : MemAt w mb n mem) (i : Nat) : w.frozen? ⟨mb, i, none⟩ = false := by
  obtain ⟨cur, h1, h2⟩ := h
  exact free_of h1 i
theorem MemAt.spare {w w' : World} {mb n sb : Nat} {mem : List Int} (h : MemAt w mb n mem) (hs : Spare sb w w') (hne : mb ≠ sb) : MemAt w' mb n mem := by
  obtain ⟨cur, h1, h2⟩ := h
  exact ⟨cur, hs.2.1 mb cur h1 hne, h2⟩
theorem MemAt.only {w w' : World} {mb n : Nat} {mem : List Int} {S : List Nat} (h : MemAt w mb n mem) (ho : Only S w w') (hne : mb ∉ S) : MemAt w' mb n mem := by
  obtain ⟨cur, h1, h2⟩ := h
  exact ⟨cur, ho.heap h1 hne, h2⟩
theorem Spare.of_only {w w' : World} {sb : Nat} (h : Only [] w w') : Spare sb w w' := ⟨h.size, fun _ _ hk _ => h.heap hk (by simp), fun _ _ hk => h.heap hk (by simp)⟩
/-- What a push leaves of other blocks. -/
theorem pushed_only {w w' : World} {B n : Nat} {v v' : Value} {xs ys : List Value} (hp : Pushed w B 3 1 v n ys v' w') (ho : w.ownsRow B 3 1 v (n - 1) xs) : Only v.ownBlock.toList w w' ∧ ∀ g, v.ownBlock = some g → B ≤ g ∧ ∃ cs, w.heap[g]? = some (.cells cs 3 (0, 0)) := by
  refine ⟨(Only.refl _ w).grown hp.2.1 (fun k hk => .inl (by simp [hk])), fun g hg => ?_⟩
  obtain ⟨c, hc⟩ := ownsRow_block ho hg
  refine ⟨?_, c, hc⟩
  rcases ho.2 with ⟨rfl, _⟩ | ⟨g', cap, cur, rfl, hb, _⟩
  · simp [Value.ownBlock] at hg
  · simp [Value.ownBlock] at hg; subst hg; exact hb

set_option maxRecDepth 100000 in
set_option maxHeartbeats 3200000 in
theorem sig_places {w0 wP w : World} {m : Bool} {ck b tb sb : Nat} {ovP : Value} {eEnd : Enc} {dEnd : Dec} {os : List Deed} (cs mem : List Int) (mb n cap : Nat) (h : Coding w0 wP w m ck b tb sb ovP eEnd dEnd (placeDeeds cs (lastOf cs) 0 (n - 1) ++ os))
    (hmem : MemAt w mb n mem) (hP : wP.heap.size ≤ mb) (hm : m = true → ∀ i, i < n → mem.getD i 0 = cs.getD i 0) (hlm : m = true → lastTo mem n = lastOf cs) (hn : cs.length = n) (hn1 : 1 ≤ n) (hn2 : n ≤ 16) (hl : 0 ≤ lastOf cs) :
    Calls Tryz.prog 242 #[.pointer (some ⟨ck, 0, none⟩), .slice (some ⟨mb, 0, none⟩) n cap] w fun r w' => ∃ v, r = .returned v ∧
      w'.ownsRow w.heap.size 3 1 v (placeOut cs (lastOf cs) 0 (n - 1)).length ((placeOut cs (lastOf cs) 0 (n - 1)).map fun (p : Nat) => Value.int .i64 (p : Int)) ∧ Coding w0 wP w' m ck b tb sb ovP eEnd dEnd os ∧ Spare sb w w' := by
  have hsb : sb < mb := by have := h.lsb; omega
  have hPw : wP.heap.size ≤ w.heap.size := by
    rcases h.run with ⟨-, ov, e, -, h2, -⟩ | ⟨-, d, -, h2, -⟩
    · exact h2.only.size
    · exact h2.size
  have hlr := lastTo_range cs cs.length
  have H := Lib.hid h
  have Hmem := Lib.hid hmem
  have Hm := Lib.hid hm
  have Hlm := Lib.hid hlm
  have Hl := Lib.hid hl
  have Hlr : Hid (lastOf cs < n) := Lib.hid (by unfold lastOf; omega)
  have Hn := Lib.hid hn
  clear h hmem hm hlm hl hlr hn
  go_enter Tryz.func242, Tryz.ntmps242
  go_wp2
  go_loop [5, 13] (fun p q => ∃ k : Nat, k ≤ n ∧ q = .int .i64 k ∧ ∃ l : Int, p = .int .i64 l ∧ Hid (l = lastTo mem k)) (fun _ q => n - (intOf q).toNat)
  case atStart => exact ⟨0, Nat.zero_le _, rfl, -1, rfl, Lib.hid rfl⟩
  case round =>
    obtain ⟨k, hk, rfl, l, rfl, hlk⟩ := hrel
    by_cases hlt : k < n
    · have c1 := Hmem.out.cell k hlt
      obtain ⟨x, hx⟩ : ∃ x, x = mem.getD k 0 := ⟨_, rfl⟩
      rw [← hx] at c1
      have Hx := Lib.hid hx
      clear hx
      by_cases h0 : x = 0
      · subst h0
        go_wp2
        go_round
        case rel => exact ⟨k + 1, by omega, by go_num, l, rfl, Lib.hid (by rw [lastTo, if_neg (by rw [← Hx.out]; simp)]; exact hlk.out)⟩
        case measure => simp [intOf] <;> omega
      · have hb0 : (x != 0) = true := by simp [h0]
        go_wp2
        go_round
        case rel => exact ⟨k + 1, by omega, by go_num, k, rfl, Lib.hid (by rw [lastTo, if_pos (by rw [← Hx.out]; exact h0)])⟩
        case measure => simp [intOf] <;> omega
    · obtain rfl : k = n := by omega
      have Hll : Hid (m = true → l = lastOf cs) := Lib.hid (fun hm => by rw [hlk.out]; exact Hlm.out hm)
      clear hlk
      go_wp2
      obtain ⟨N, hN⟩ : ∃ N : Nat, N = k - 1 := ⟨_, rfl⟩
      have hNk : ((k : Int) - 1) = (N : Int) := by omega
      rw [hNk]
      rw [← hN] at H
      have HN := Lib.hid hN
      have hNl : N ≤ 15 := by omega
      have hNk2 : N < k := by omega
      clear hN hNk
      go_loopw [8, 25] (fun o q wr => ∃ (j z : Nat) (done : List Nat), j ≤ N ∧ q = .int .i64 j ∧ Hid (z = done.length) ∧ z ≤ j ∧ wr.ownsRow w.heap.size 3 1 o z (done.map fun (p : Nat) => Value.int .i64 (p : Int)) ∧
        Coding w0 wP wr m ck b tb sb ovP eEnd dEnd (placeDeeds cs (lastOf cs) j (N - j) ++ os) ∧ Hid (done ++ placeOut cs (lastOf cs) j (N - j) = placeOut cs (lastOf cs) 0 N) ∧ Hid ((j : Int) ≤ lastOf cs) ∧ Spare sb w wr) (fun _ q _ => N - (intOf q).toNat)
      case atStart => exact ⟨0, 0, [], Nat.zero_le _, rfl, Lib.hid rfl, Nat.le_refl _, World.ownsRow_nil _ _ _ _, by rw [Nat.sub_zero]; exact H.out, Lib.hid (by simp), Lib.hid (by have := Hl.out; omega), ⟨Nat.le_refl _, fun _ _ h _ => h, fun _ _ h => h⟩⟩
      case round =>
        obtain ⟨j, z, done, hj, rfl, hz, hzj, hown, hcd, hdn, hjl, hsp⟩ := hrel
        have Hown := Lib.hid hown
        have Hcd := Lib.hid hcd
        have Hsp := Lib.hid hsp
        have hmem2 := Hmem.out.spare hsp (by omega)
        have Hmem2 := Lib.hid hmem2
        have hws := hsp.1
        by_cases hlt2 : j < N
        · have c1 := hmem2.cell j (by omega)
          obtain ⟨x, hx⟩ : ∃ x, x = mem.getD j 0 := ⟨_, rfl⟩
          rw [← hx] at c1
          have Hx := Lib.hid hx
          have hstep : N - j = (N - (j + 1)) + 1 := by omega
          have hinc : 0 ≤ incAt j ∧ incAt j ≤ 7 := by unfold incAt; omega
          have Hinc := Lib.hid hinc
          clear hx hown hcd hsp hmem2
          by_cases h0 : cs.getD j 0 = 0
          · have hcd2 := Hcd.out
            rw [hstep, placeDeeds, if_pos h0, List.append_assoc] at hcd2
            have hdn2 := hdn.out
            rw [hstep, placeOut, if_pos h0] at hdn2
            have Hcd2 := Lib.hid hcd2
            have Hdn2 := Lib.hid hdn2
            have Hu : Hid (m = true → flagOf (x != 0) = 0) := Lib.hid (fun hm => by rw [Hx.out, Hm.out hm j (by omega), h0]; rfl)
            have Hjl : Hid (((j + 1 : Nat) : Int) ≤ lastOf cs) := Lib.hid (by
              have h1 := hjl.out
              have h2 : (j : Int) ≠ lastOf cs := by
                intro he
                have h3 := lastTo_at cs cs.length (by unfold lastOf at he; omega)
                have h4 : (lastTo cs cs.length).toNat = j := by unfold lastOf at he; omega
                rw [h4] at h3
                exact h3 h0
              omega)
            clear hcd2 hdn2 hstep h0
            go_wp2_with fail
            refine (sig_flag (x != 0) wr).mono ?_
            rintro r w3 ⟨rfl, rfl⟩
            go_wp2_with fail
            refine (sig_element 15 (incAt j) 0 (flagOf (x != 0)) Hcd2.out rfl Hinc.out.1 Hinc.out.2 Hu.out).mono ?_
            rintro r w4 ⟨rfl, g1, g2⟩
            have G1 := Lib.hid g1
            have G2 := Lib.hid (Hsp.out.trans g2)
            have G3 := Lib.hid (g2.row Hown.out (by have := Hcd2.out.lsb; omega))
            clear g1 g2
            go_wp2
            go_roundw
            case rel => exact ⟨j + 1, z, done, by omega, by go_num, hz, by omega, G3.out, G1.out, Hdn2, Hjl, G2.out⟩
            case measure => simp [intOf] <;> omega
          · have hcd2 := Hcd.out
            rw [hstep, placeDeeds, if_neg h0, List.append_assoc, List.append_assoc] at hcd2
            have hdn2 := hdn.out
            rw [hstep, placeOut, if_neg h0] at hdn2
            have Hcd2 := Lib.hid hcd2
            have Hdn2 := Lib.hid hdn2
            have Hu : Hid (m = true → flagOf (x != 0) = 1) := Lib.hid (fun hm => by rw [Hx.out, Hm.out hm j (by omega), show (cs.getD j 0 != 0) = true from bne_iff_ne.2 h0]; rfl)
            clear hcd2 hdn2 hstep h0
            go_wp2_with fail
            refine (sig_flag (x != 0) wr).mono ?_
            rintro r w3 ⟨rfl, rfl⟩
            go_wp2_with fail
            refine (sig_element 15 (incAt j) 1 (flagOf (x != 0)) Hcd2.out rfl Hinc.out.1 Hinc.out.2 Hu.out).mono ?_
            rintro r w4 ⟨rfl, g1, g2⟩
            have G1 := Lib.hid g1
            have G2 := Lib.hid (Hsp.out.trans g2)
            have G3 := Lib.hid (g2.row Hown.out (by have := Hcd2.out.lsb; omega))
            have hw4 : w.heap.size ≤ w4.heap.size := by have := g2.1; omega
            clear g1 g2
            go_wp2_with (at_builtin; refine wpList_push rfl _ _ rfl elt64 w.heap.size _ _ _ _ G3.out rfl rfl (by simp) rfl hw4 (by decide) (by omega) ?_)
            intro g5 cap5 w5 hp
            obtain ⟨o5, b5⟩ := pushed_only hp G3.out
            have K5 := Lib.hid (G1.out.past o5 (fun i hi => by
              obtain ⟨q1, q2⟩ := b5 i (by simpa using hi)
              exact ⟨by omega, q2⟩))
            have Own5 := Lib.hid (show w5.ownsRow w.heap.size 3 1 (.slice (some ⟨g5, 0, none⟩) (z + 1) cap5) (z + 1) ((done ++ [j]).map fun (p : Nat) => Value.int .i64 (p : Int)) from ownsRow_cast hp.1 rfl (by simp))
            have Sp5 : Hid (Spare sb w w5) := Lib.hid ⟨Nat.le_trans hw4 o5.size, fun k cs hk hne => o5.heap (G2.out.2.1 k cs hk hne) (fun hi => by have := (b5 k (by simpa using hi)).1; have := lt_of_block hk; omega), fun k cs hk => o5.heap (G2.out.2.2 k cs hk) (fun hi => by have := (b5 k (by simpa using hi)).1; have := lt_of_block hk; omega)⟩
            have hz5 : w.heap.size ≤ w5.heap.size := Nat.le_trans hw4 o5.size
            clear hp o5 b5
            by_cases he : (j : Int) = lastOf cs
            · have hcd3 := K5.out
              have hdn3 := Hdn2.out
              rw [if_pos he, List.nil_append, show decide ((j : Int) = lastOf cs) = true from decide_eq_true he] at hcd3
              rw [if_pos he] at hdn3
              have Hcd3 := Lib.hid hcd3
              have Hdn3 := Lib.hid hdn3
              have Hu3 : Hid (m = true → flagOf ((j : Int) == l) = 1) := Lib.hid (fun hm => by rw [Hll.out hm, he]; simp [flagOf])
              clear hcd3 hdn3 he
              go_wp2_with fail
              refine (sig_flag ((j : Int) == l) w5).mono ?_
              rintro r w6 ⟨rfl, rfl⟩
              go_wp2_with fail
              refine (sig_element 16 (incAt j) 1 (flagOf ((j : Int) == l)) Hcd3.out rfl Hinc.out.1 Hinc.out.2 Hu3.out).mono ?_
              rintro r w7 ⟨rfl, g1, g2⟩
              have K7 := Lib.hid g1
              have Sp7 := Lib.hid (Sp5.out.trans g2)
              have Own7 := Lib.hid (g2.row Own5.out (by have := Hcd3.out.lsb; omega))
              clear g1 g2
              go_wp2
              go_ret
              refine ⟨_, rfl, ?_, K7.out, Sp7.out⟩
              rw [← HN.out, ← Hdn3.out]
              exact ownsRow_cast Own7.out (by rw [hz.out]; simp) rfl
            · have hcd3 := K5.out
              have hdn3 := Hdn2.out
              rw [if_neg he, show decide ((j : Int) = lastOf cs) = false from decide_eq_false he] at hcd3
              rw [if_neg he] at hdn3
              have Hcd3 := Lib.hid hcd3
              have Hdn3 : Hid ((done ++ [j]) ++ placeOut cs (lastOf cs) (j + 1) (N - (j + 1)) = placeOut cs (lastOf cs) 0 N) := Lib.hid (by rw [← hdn3]; simp)
              have Hu3 : Hid (m = true → flagOf ((j : Int) == l) = 0) := Lib.hid (fun hm => by rw [Hll.out hm]; simp [flagOf, he])
              have Hjl : Hid (((j + 1 : Nat) : Int) ≤ lastOf cs) := Lib.hid (by have h1 := hjl.out; omega)
              clear hcd3 hdn3 he
              go_wp2_with fail
              refine (sig_flag ((j : Int) == l) w5).mono ?_
              rintro r w6 ⟨rfl, rfl⟩
              go_wp2_with fail
              refine (sig_element 16 (incAt j) 0 (flagOf ((j : Int) == l)) Hcd3.out rfl Hinc.out.1 Hinc.out.2 Hu3.out).mono ?_
              rintro r w7 ⟨rfl, g1, g2⟩
              have K7 := Lib.hid g1
              have Sp7 := Lib.hid (Sp5.out.trans g2)
              have Own7 := Lib.hid (g2.row Own5.out (by have := Hcd3.out.lsb; omega))
              clear g1 g2
              go_wp2
              go_roundw
              case rel => exact ⟨j + 1, z + 1, done ++ [j], by omega, by go_num, Lib.hid (by rw [hz.out]; simp), by omega, Own7.out, K7.out, Hdn3, Hjl, Sp7.out⟩
              case measure => simp [intOf] <;> omega
        · obtain rfl : j = N := by omega
          have hcd2 := Hcd.out
          rw [Nat.sub_self, placeDeeds, List.nil_append] at hcd2
          have hdn2 := hdn.out
          rw [Nat.sub_self, placeOut] at hdn2
          have Hcd2 := Lib.hid hcd2
          have Hdn2 := Lib.hid hdn2
          have hkj : (k : Int) - 1 = (j : Int) := by have := HN.out; omega
          have Hkj := Lib.hid hkj
          clear hcd2 hdn2 hkj hown hcd hsp hmem2
          go_wp2_with (at_builtin; refine wpList_push rfl _ _ rfl elt64 w.heap.size _ _ _ _ Hown.out rfl rfl (by simp) rfl (by omega) (by decide) (by omega) ?_)
          intro g5 cap5 w5 hp
          obtain ⟨o5, b5⟩ := pushed_only hp Hown.out
          have K5 := Lib.hid (Hcd2.out.past o5 (fun i hi => by
            obtain ⟨q1, q2⟩ := b5 i (by simpa using hi)
            exact ⟨by omega, q2⟩))
          have Own5 := Lib.hid (show w5.ownsRow w.heap.size 3 1 (.slice (some ⟨g5, 0, none⟩) (z + 1) cap5) (z + 1) ((done ++ [j]).map fun (p : Nat) => Value.int .i64 (p : Int)) from ownsRow_cast hp.1 rfl (by simp [Hkj.out]))
          have Sp5 : Hid (Spare sb w w5) := Lib.hid ⟨Nat.le_trans hws o5.size, fun k cs hk hne => o5.heap (Hsp.out.2.1 k cs hk hne) (fun hi => by have := (b5 k (by simpa using hi)).1; have := lt_of_block hk; omega), fun k cs hk => o5.heap (Hsp.out.2.2 k cs hk) (fun hi => by have := (b5 k (by simpa using hi)).1; have := lt_of_block hk; omega)⟩
          clear hp o5 b5
          go_wp2
          go_ret
          refine ⟨_, rfl, ?_, K5.out, Sp5.out⟩
          rw [← HN.out, ← Hdn2.out]
          exact ownsRow_cast Own5.out (by rw [hz.out]; simp) rfl
end Go.Proofs.YtcppbdlmcbjmeaaGreatDoor
