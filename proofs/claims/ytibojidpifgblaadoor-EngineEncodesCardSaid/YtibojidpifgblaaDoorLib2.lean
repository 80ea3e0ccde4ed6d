/-
  More of my own small library: make with a known size; a row that is filled from its head.
-/
import Derived.Test.YtibojidpifgblaaDoorLib
import Derived.Deep.QuietTactic
import Derived.BigQuiet
namespace Go.Proofs.YtibojidpifgblaaDoor
open Go.RowKit

/-- So many equal cells (a plain definition, so that the walk does not write them out). -/
def zrow (n : Nat) (z : Value) : Array Value := (List.replicate n z).toArray

theorem wpList_make1B {P : Program} {w : World} {ops : Array Oper} {rest : List Oper} {o : Oper} {a : Act} {Q : Exit → Act → World → Prop} (hgd : o.guard = none) (l c : Operand) {t e : TypeId}
    (hop : o.op = Op.makeSlice t l c) {z : Value} {bytes : Nat} (E : Elt P t e z 1 bytes) (hz1 : z.cells = #[z]) {kl kc : IntKind} {L C : Int} (n : Nat) (hl : a.eval l = .int kl L) (hc : a.eval c = .int kc C)
    (hL : L = (n : Int)) (hC : C = (n : Int)) (hb : bytes * n ≤ 281474976710656) (hn : n ≤ 281474976710656)
    (h : ∀ w', w'.heap[w.heap.size]? = some (.cells (zrow n z) e (0, 0)) → Only [] w w' → w'.heap.size = w.heap.size + 1 →
      wpList P ops Q rest (a.put o.dst (.slice (some ⟨w.heap.size, 0, none⟩) n n)) w') :
    wpList P ops Q (o :: rest) a w := by
  obtain ⟨i, hi, hz, hs, hbt⟩ := info_parts E.hi
  subst hL hC
  have hbytes : (i.bytes : Int) * (n : Int) ≤ 281474976710656 := by
    have h2 : ((i.bytes * n : Nat) : Int) ≤ 281474976710656 := by rw [hbt]; omega
    simpa using h2
  have hr := run_make (P := P) w t e i z E.ht hi hz kl kc n n (by omega) (Int.le_refl _) hbytes (by omega)
  refine wpList_plain hgd fun K hK => ?_
  unfold Oper.wp
  simp [execOp, hop, hl, hc, hr, Result.andThen]
  refine hK _ _ (h _ ?_ ((Only.refl _ _).alloc _) (by simp))
  rw [heap_alloc_at, hz1, hs]
  congr 2
  apply Array.ext'
  rw [toList_madeCells_one]
  simp [zrow]

theorem wpList_make1 {P : Program} {w : World} {ops : Array Oper} {rest : List Oper} {o : Oper} {a : Act} {Q : Exit → Act → World → Prop} (hgd : o.guard = none) (l c : Operand) {t e : TypeId}
    (hop : o.op = Op.makeSlice t l c) {z : Value} {bytes : Nat} (E : Elt P t e z 1 bytes) (hz1 : z.cells = #[z]) {kl kc : IntKind} {L C : Int} (n : Nat) (hl : a.eval l = .int kl L) (hc : a.eval c = .int kc C)
    (hL : L = (n : Int)) (hC : C = (n : Int)) (hb : bytes ≤ 1024) (hn : n ≤ 100000000000)
    (h : ∀ w', w'.heap[w.heap.size]? = some (.cells (zrow n z) e (0, 0)) → Only [] w w' → w'.heap.size = w.heap.size + 1 →
      wpList P ops Q rest (a.put o.dst (.slice (some ⟨w.heap.size, 0, none⟩) n n)) w') :
    wpList P ops Q (o :: rest) a w := by
  have : bytes * n ≤ 1024 * 100000000000 := Nat.mul_le_mul hb hn
  exact wpList_make1B hgd l c hop E hz1 n hl hc hL hC (by omega) (by omega) h

/-- A row whose first k places are filled by f, the others 0. -/
def fillTo (f : Nat → Int) (n k : Nat) : List Int := (List.range n).map fun c => if c < k then f c else 0
theorem fillTo_zero (f : Nat → Int) (n : Nat) : fillTo f n 0 = List.replicate n 0 := by
  unfold fillTo
  apply List.ext_getElem?
  intro i
  by_cases h : i < n <;> simp [h]
theorem fillTo_full (f : Nat → Int) (n : Nat) : fillTo f n n = (List.range n).map f := by
  unfold fillTo
  apply List.map_congr_left
  intro i hi
  rw [if_pos (by simpa using hi)]
theorem fillTo_length (f : Nat → Int) (n k : Nat) : (fillTo f n k).length = n := by simp [fillTo]
theorem fillTo_set (f : Nat → Int) (n k : Nat) (v : Int) (hv : v = f k) : (fillTo f n k).set k v = fillTo f n (k + 1) := by
  subst hv
  unfold fillTo
  apply List.ext_getElem?
  intro i
  by_cases h : i < n
  · by_cases hk : k = i
    · subst hk; simp [h]
    · have h1 : (i < k + 1) ↔ (i < k) := by omega
      simp [h, hk, h1]
  · simp [h]
def ints (xs : List Int) : Array Value := (xs.map (Value.int .i64)).toArray
theorem ints_size (xs : List Int) : (ints xs).size = xs.length := by simp [ints]
theorem ints_at (xs : List Int) (i : Nat) (h : i < xs.length) : (ints xs)[i]? = some (.int .i64 (xs.getD i 0)) := by
  simp [ints, h, List.getD]
theorem ints_setIf (xs : List Int) (i : Nat) (v : Int) : (ints xs).setIfInBounds i (.int .i64 v) = ints (xs.set i v) := by
  unfold ints
  rw [List.map_set]
  simp
theorem ints_replicate (n : Nat) : zrow n (.int .i64 0) = ints (List.replicate n 0) := by simp [ints, zrow]
/-- 'int(uint(v) % m)': a number below m. -/
theorem u64mod (v : Int) (m : Nat) (h0 : 0 < m) (h1 : m < 4611686018427387904) : ∃ k : Nat, wrap64 ((IntKind.u64.wrap v).tmod (m : Int)) = (k : Int) ∧ k < m := by
  have hw : 0 ≤ IntKind.u64.wrap v := by rw [IntKind.wrap_u64]; omega
  obtain ⟨n, hn⟩ := Int.eq_ofNat_of_zero_le hw
  refine ⟨n % m, ?_, Nat.mod_lt _ h0⟩
  rw [hn, Int.tmod_eq_emod_of_nonneg (by omega)]
  have h2 : ((n : Int) % (m : Int)) = ((n % m : Nat) : Int) := by simp
  have h3 := Nat.mod_lt n h0
  rw [h2]
  exact IntWalk.wrap64_in _ ⟨by omega, by omega⟩
/-- Two texts that differ, as the walk asks it. -/
theorem text_ne {a b : ByteArray} (h : a ≠ b) : (a.toList == b.toList) = false := by
  rw [beq_eq_false_iff_ne]
  intro e
  rw [ByteArray.toList_eq, ByteArray.toList_eq] at e
  apply h
  cases a; cases b
  congr
  exact Array.ext' e
theorem text_eq {a b : ByteArray} (h : a = b) : (a.toList == b.toList) = true := by
  subst h; simp
theorem u64rem (v : Int) (m : Nat) (h0 : 0 < m) : ∃ k : Nat, (IntKind.u64.wrap v).tmod (m : Int) = (k : Int) ∧ k < m := by
  have hw : 0 ≤ IntKind.u64.wrap v := by rw [IntKind.wrap_u64]; omega
  obtain ⟨n, hn⟩ := Int.eq_ofNat_of_zero_le hw
  refine ⟨n % m, ?_, Nat.mod_lt _ h0⟩
  rw [hn, Int.tmod_eq_emod_of_nonneg (by omega)]
  simp
/-- The shape of an owned row that is not empty, and its cells. -/
theorem owned_shape {w : World} {B : Nat} {e : TypeId} {v : Value} {n : Nat} {xs : List Value} (h : w.ownsRow B e 1 v n xs) (hn : 0 < n) :
    ∃ g cap cur, v = .slice (some ⟨g, 0, none⟩) n cap ∧ B ≤ g ∧ w.heap[g]? = some (.cells cur e (0, 0)) ∧ ∀ i, i < n → w.cell? ⟨g, i, none⟩ = xs[i]? := by
  rcases h.2 with ⟨_, h0⟩ | ⟨g, cap, cur, rfl, hb, hg, _⟩
  · omega
  · exact ⟨g, cap, cur, rfl, hb, hg, fun i hi => h.cellAt i (by omega)⟩
theorem Only.cell {S : List Nat} {w w' : World} (h : Only S w w') {a : Addr} {v : Value} (hc : w.cell? a = some v) (hs : a.block ∉ S) : w'.cell? a = some v :=
  (World.cell?_of_block (h.block a.block (World.block_lt_of_cell? w a hc) hs)).trans hc
theorem Only.drewN {S : List Nat} {a w : World} (h : Only S a w) (n : Nat) : Only S a (w.drewN n) := ⟨h.os, h.tape, h.output, h.size, h.block⟩
end Go.Proofs.YtibojidpifgblaaDoor
