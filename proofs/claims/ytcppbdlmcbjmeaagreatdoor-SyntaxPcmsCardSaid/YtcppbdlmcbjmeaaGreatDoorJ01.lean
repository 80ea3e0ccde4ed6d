/-
  My own small library: worlds that differ in a few blocks ('Only'), one-element appends, cells out of blocks. It names no function of the program. Plain Lean: planes of samples as lists; blocks that are laid down on them, sums that are added. No program is named.
-/
import Derived.WalkKit
import Derived.WalkSpells
import Derived.WalkLawsBesides
import Derived.Lib.Hide
import Derived.Deep.QuietTactic
import Derived.BigQuiet
import Derived.Laws.CopyOwn
import Derived.Deep.RegionHeld3
import Derived.Laws.BytesArg
import Derived.Laws.Build
namespace Go.Proofs.YtcppbdlmcbjmeaaGreatDoor
open Go.RowKit

/-- w' is w with new blocks and with changes in the blocks of S alone. -/
structure Only (S : List Nat) (w w' : World) : Prop where
  os : w'.os = w.os
  tape : w'.tape = w.tape
  output : w'.output = w.output
  size : w.heap.size ≤ w'.heap.size
  block : ∀ k, k < w.heap.size → k ∉ S → w'.heap[k]? = w.heap[k]?

theorem Only.refl (S : List Nat) (w : World) : Only S w w := ⟨rfl, rfl, rfl, Nat.le_refl _, fun _ _ _ => rfl⟩
theorem Only.trans {S : List Nat} {a b c : World} (h : Only S a b) (k : Only S b c) : Only S a c :=
  ⟨k.os.trans h.os, k.tape.trans h.tape, k.output.trans h.output, Nat.le_trans h.size k.size,
    fun i hi hs => (k.block i (Nat.lt_of_lt_of_le hi h.size) hs).trans (h.block i hi hs)⟩
/-- Two steps: the second may change what the first has made. -/
theorem Only.trans' {S T : List Nat} {a b c : World} (h : Only S a b) (k : Only T b c) (hT : ∀ i ∈ T, i ∈ S ∨ a.heap.size ≤ i) : Only S a c :=
  ⟨k.os.trans h.os, k.tape.trans h.tape, k.output.trans h.output, Nat.le_trans h.size k.size,
    fun i hi hs => (k.block i (Nat.lt_of_lt_of_le hi h.size) (fun ht => (hT i ht).elim hs (by omega))).trans (h.block i hi hs)⟩
theorem Only.mono {S T : List Nat} {a b : World} (h : Only S a b) (hT : ∀ i ∈ S, i ∈ T) : Only T a b :=
  ⟨h.os, h.tape, h.output, h.size, fun i hi hs => h.block i hi (fun g => hs (hT i g))⟩
theorem Only.alloc {S : List Nat} {a w : World} (h : Only S a w) (o : Obj) : Only S a (w.alloc o) :=
  h.trans ⟨rfl, rfl, rfl, by simp, fun k hk _ => Below.heap_alloc _ _ _ hk⟩
theorem Only.drew {S : List Nat} {a w : World} (h : Only S a w) : Only S a w.drew := ⟨h.os, h.tape, h.output, h.size, h.block⟩
theorem Only.setCell {S : List Nat} {a w : World} (h : Only S a w) {p : Addr} (hp : p.block ∈ S ∨ a.heap.size ≤ p.block) (u : Value) : Only S a (w.setCell p u) :=
  h.trans' (T := [p.block]) ⟨rfl, rfl, rfl, by simp, fun k _ hs => Below.heap_setCell _ _ _ _ (by simpa using hs)⟩ (by simpa using hp)
theorem Only.grown {S : List Nat} {a w w' : World} {row : Option Nat} (h : Only S a w) (hg : w.grownBy w' row) (hr : ∀ k, row = some k → k ∈ S ∨ a.heap.size ≤ k) : Only S a w' :=
  h.trans' (T := row.toList) ⟨hg.os, hg.tape, hg.output, hg.size, fun k hk hs => hg.block k hk (fun e => hs (by simp [← e]))⟩ (fun i hi => hr i (by simpa using hi))
theorem Only.below {w w' : World} (h : Only [] w w') : Below w.heap.size w w' := ⟨h.os, h.tape, h.output, h.size, fun k hk => h.block k hk (by simp)⟩
theorem Only.below' {B : Nat} {S : List Nat} {w w' : World} (h : Only S w w') (hS : ∀ k ∈ S, B ≤ k) (hB : B ≤ w.heap.size) : Below B w w' :=
  ⟨h.os, h.tape, h.output, h.size, fun k hk => h.block k (by omega) (fun hs => by have := hS k hs; omega)⟩
theorem Only.of_below {w w' : World} (h : Below w.heap.size w w') : Only [] w w' := ⟨h.os, h.tape, h.output, h.size, fun k hk _ => h.block k hk⟩
theorem Only.trans_below {S : List Nat} {B : Nat} {a b c : World} (h : Only S a b) (k : Below B b c) (hB : a.heap.size ≤ B) : Only S a c :=
  ⟨k.os.trans h.os, k.tape.trans h.tape, k.output.trans h.output, Nat.le_trans h.size k.size, fun i hi hs => (k.block i (by omega)).trans (h.block i hi hs)⟩
theorem Only.heap {S : List Nat} {w w' : World} (h : Only S w w') {k : Nat} {o : Obj} (ho : w.heap[k]? = some o) (hs : k ∉ S) : w'.heap[k]? = some o :=
  (h.block k (lt_of_block ho) hs).trans ho
theorem Only.frame {W w' : World} (h : Only [] W w') (may : MemPlace → Prop) : W.keptBut w' may := h.below.frame may

/-- Blocks behind a store, a new block, a draw. -/
theorem heap_set_same {w : World} {b i : Nat} {cs : Array Value} {e : TypeId} {f : Nat × Nat} (u : Value) (h : w.heap[b]? = some (.cells cs e f)) :
    (w.setCell ⟨b, i, none⟩ u).heap[b]? = some (.cells (cs.setIfInBounds i u) e f) := by
  simp [World.setCell, Array.getElem?_modify, h]
theorem heap_set_other {w : World} {b i k : Nat} {o : Obj} (u : Value) (h : w.heap[k]? = some o) (hk : k ≠ b) :
    (w.setCell ⟨b, i, none⟩ u).heap[k]? = some o := (Below.heap_setCell _ _ _ _ hk).trans h
theorem heap_alloc_lt {w : World} {k : Nat} {o : Obj} (x : Obj) (h : w.heap[k]? = some o) : (w.alloc x).heap[k]? = some o :=
  (Below.heap_alloc _ _ _ (lt_of_block h)).trans h
theorem heap_alloc_at (w : World) (x : Obj) : (w.alloc x).heap[w.heap.size]? = some x := heap_alloc_new w x

/-- What a block's cells read as, and that none is frozen. -/
theorem cells_of {w : World} {b : Nat} {cs : Array Value} {e : TypeId} (h : w.heap[b]? = some (.cells cs e (0, 0))) : ∀ i, w.cell? ⟨b, i, none⟩ = cs[i]? := by
  intro i; simp [World.cell?, h]
theorem free_of {w : World} {b : Nat} {cs : Array Value} {e : TypeId} (h : w.heap[b]? = some (.cells cs e (0, 0))) : ∀ i, w.frozen? ⟨b, i, none⟩ = false := by
  intro i
  simp [World.frozen?, h]

/-- A slice's type and its element type: its number, its zero, its cells, its bytes. -/
structure Elt (P : Program) (t e : TypeId) (z : Value) (size bytes : Nat) : Prop where
  ht : P.underlying t = some (.slice e)
  hi : (P.info? e).map (fun i => (i.zero, i.size, i.bytes)) = some (some z, size, bytes)
  zs : z.cells.size = size
  pos : 0 < size

/-- What 'append(v, news...)' leaves, v the call's own, at least one new element: a slice in the same block or in a new one. -/
def Pushed (w : World) (base : Nat) (e : TypeId) (size : Nat) (v : Value) (n : Nat) (xs : List Value) (v' : Value) (w' : World) : Prop :=
  w'.ownsRow base e size v' n xs ∧ w.grownBy w' v.ownBlock ∧ ∃ g cap, v' = .slice (some ⟨g, 0, none⟩) n cap ∧ (v.ownBlock = some g ∨ w.heap.size ≤ g)

theorem run_appendB {P : Program} {w : World} {t ty e : TypeId} {z : Value} {size bytes : Nat} (E : Elt P t e z size bytes) (base : Nat) (v : Value) (n : Nat) (xs : List Value) (hown : w.ownsRow base e size v n xs)
    (a : Addr) (m c : Nat) (news : List Value) (hl : news.length = m * size) (hnews : ∀ j u, news[j]? = some u → w.cell? (a.add j) = some u) (h1 : ∀ u ∈ news, u.oneCell' = true)
    (hm : 0 < m) (hbytes : (n + m) * bytes ≤ 140737488355328) (hn : n + m ≤ 140737488355328) (hbase : base ≤ w.heap.size) :
    ∃ v' w', (Builtin.append_ #[t, t] ty #[v, .slice (some a) m c]).run P w = .ok v' w' ∧ Pushed w base e size v (n + m) (xs ++ news) v' w' := by
  obtain ⟨i, hi, hz, rfl, rfl⟩ := info_parts E.hi
  have h63 : n + m ≤ maxLen := by unfold maxLen; omega
  have hlen : (xs ++ news).length = (n + m) * i.size := by rw [List.length_append, hown.1, hl, Nat.add_mul]
  have new : ∀ old, Pushed w base e i.size v (n + m) (xs ++ news) (.slice (some ⟨w.heap.size, 0, none⟩) (n + m) (grownCap w (n + m) old e))
      (w.drew.alloc (.cells (xs.toArray ++ news.toArray ++ Builtin.zeroCells z.cells (grownCap w (n + m) old e - (n + m))) e)) := by
    intro old
    have hge := grownCap_ge w (n + m) old e
    refine ⟨⟨hlen, .inr ⟨w.heap.size, _, _, rfl, hbase, heap_alloc_new w.drew _, hge, grownCap_le_maxLen w (n + m) old e h63, ?_, ?_⟩⟩,
      ⟨rfl, rfl, rfl, by simp, fun k hk _ => Below.heap_alloc w.drew _ k hk⟩, _, _, rfl, .inr (Nat.le_refl _)⟩
    · simp only [Array.size_append, List.size_toArray, size_zeroCells, E.zs, hown.1, hl, ← Nat.add_mul]
      congr 1
      omega
    · simp only [Array.toList_append, List.append_assoc]
      rw [← List.append_assoc, ← hlen]
      exact List.take_left
  rcases hown.2 with ⟨rfl, rfl⟩ | ⟨g, cap, cur, rfl, hbg, hg, hnc, hcm, hcs, htake⟩
  · have hx : xs = [] := List.eq_nil_of_length_eq_zero (by simpa using hown.1)
    subst hx
    have hr := run_append_nil (P := P) w t ty e i z E.ht hi hz a m c news hl hnews hm (by omega) (by simp only [Nat.zero_add] at hbytes; omega)
    have hgr := new 0
    simp only [Nat.zero_add, List.nil_append, Array.empty_append] at hgr ⊢
    exact ⟨_, _, hr, hgr⟩
  · by_cases hroom : n + m ≤ cap
    · have hfit : n * i.size + news.length ≤ cur.size := by rw [hl, hcs, ← Nat.add_mul]; exact Nat.mul_le_mul_right _ hroom
      have hr := run_append_room (P := P) w t ty e i E.ht hi g n cap cur hg a m c news hl hnews h1 hroom hfit
      refine ⟨_, _, hr, ⟨hlen, .inr ⟨g, cap, _, rfl, hbg, setRow_heap w g cur _ e _ hg, hroom, hcm, ?_, ?_⟩⟩,
        ⟨rfl, rfl, rfl, by simp, fun k _ hk => setRow_other w g k _ (fun e => hk (by simp [Value.ownBlock, e]))⟩, _, _, rfl, .inl rfl⟩
      · simp only [List.size_toArray, List.length_append, List.length_take, List.length_drop, Array.length_toList]
        omega
      · rw [htake, ← hlen]
        exact List.take_left
    · have hr := run_append_grow (P := P) w t ty e i z E.ht hi hz ⟨g, 0, none⟩ n cap xs hown.1 (hown.cells (g := g) rfl) a m c news hl hnews (by omega) (by omega) (growslice_fits (by omega) hbytes)
      exact ⟨_, _, hr, new cap⟩

/-- The same as a law for the walk. -/
theorem wpList_appendB {P : Program} {w : World} {ops : Array Oper} {rest : List Oper} {o : Oper} {a : Act} {Q : Exit → Act → World → Prop} (hgd : o.guard = none) (s x : Operand) {t e : TypeId}
    (ho : o.op = .call { callee := .builtin .append, args := #[s, x], argTypes := #[t, t] }) {z : Value} {size bytes : Nat} (E : Elt P t e z size bytes)
    (base : Nat) (v : Value) (n : Nat) (xs : List Value) (hs : a.eval s = v) (hown : w.ownsRow base e size v n xs)
    (ad : Addr) (m c : Nat) (news : List Value) (hx : a.eval x = .slice (some ad) m c) (hl : news.length = m * size) (hnews : ∀ j u, news[j]? = some u → w.cell? (ad.add j) = some u) (h1 : ∀ u ∈ news, u.oneCell' = true)
    (hm : 0 < m) (hby : (n + m) * bytes ≤ 140737488355328) (hn : n + m ≤ 140737488355328) (hbase : base ≤ w.heap.size)
    (h : ∀ g cap w', Pushed w base e size v (n + m) (xs ++ news) (.slice (some ⟨g, 0, none⟩) (n + m) cap) w' → wpList P ops Q rest (a.put o.dst (.slice (some ⟨g, 0, none⟩) (n + m) cap)) w') :
    wpList P ops Q (o :: rest) a w := by
  obtain ⟨v', w', hr, hp⟩ := run_appendB (ty := o.type) E base v n xs hown ad m c news hl hnews h1 hm hby hn hbase
  obtain ⟨g, cap, rfl, _⟩ := hp.2.2
  refine wpList_plain hgd fun _ hK => ?_
  unfold Oper.wp execOp
  simp only [ho, resolve, invoke, builtin, Sem.run_bind, Sem.run_pure, Result.andThen_ok, List.map_toArray, List.map_cons, List.map_nil, hs, hx, hr]
  exact hK _ _ (h g cap w' hp)

theorem wpList_appendG {P : Program} {w : World} {ops : Array Oper} {rest : List Oper} {o : Oper} {a : Act} {Q : Exit → Act → World → Prop} (hgd : o.guard = none) (s x : Operand) {t e : TypeId}
    (ho : o.op = .call { callee := .builtin .append, args := #[s, x], argTypes := #[t, t] }) {z : Value} {size bytes : Nat} (E : Elt P t e z size bytes)
    (base : Nat) (v : Value) (n : Nat) (xs : List Value) (hs : a.eval s = v) (hown : w.ownsRow base e size v n xs)
    (ad : Addr) (m c : Nat) (news : List Value) (hx : a.eval x = .slice (some ad) m c) (hl : news.length = m * size) (hnews : ∀ j u, news[j]? = some u → w.cell? (ad.add j) = some u) (h1 : ∀ u ∈ news, u.oneCell' = true)
    (hm : 0 < m) (hby : bytes ≤ 1024) (hn : n + m ≤ 100000000000) (hbase : base ≤ w.heap.size)
    (h : ∀ g cap w', Pushed w base e size v (n + m) (xs ++ news) (.slice (some ⟨g, 0, none⟩) (n + m) cap) w' → wpList P ops Q rest (a.put o.dst (.slice (some ⟨g, 0, none⟩) (n + m) cap)) w') :
    wpList P ops Q (o :: rest) a w := by
  have : (n + m) * bytes ≤ 100000000000 * 1024 := Nat.mul_le_mul (by omega) hby
  exact wpList_appendB hgd s x ho E base v n xs hs hown ad m c news hx hl hnews h1 hm (by omega) (by omega) hbase h

theorem Pushed.of_alloc {w : World} {base : Nat} {e : TypeId} {size : Nat} {v : Value} {n : Nat} {xs : List Value} {v' : Value} {w' : World} {x : Obj} (h : Pushed (w.alloc x) base e size v n xs v' w') : Pushed w base e size v n xs v' w' := by
  obtain ⟨h1, h2, g, cap, h3, h4⟩ := h
  refine ⟨h1, ⟨h2.os, h2.tape, h2.output, ?_, ?_⟩, g, cap, h3, ?_⟩
  · have := h2.size; simp at this; omega
  · intro k hk hr
    rw [h2.block k (by simp; omega) hr]
    exact Below.heap_alloc _ _ _ hk
  · rcases h4 with h | h
    · exact .inl h
    · simp at h; exact .inr (by omega)

/-- 'out = append(out, x)', x one cell, out the call's own. -/
theorem wpList_push {P : Program} {w : World} {ops : Array Oper} {rest : List Oper} {o : Oper} {a : Act} {Q : Exit → Act → World → Prop} (hgd : o.guard = none) (s x : Operand) {t e : TypeId}
    (ho : o.op = .call { callee := .builtin .append, args := #[s, x], argTypes := #[t, t] }) {z : Value} {bytes : Nat} (E : Elt P t e z 1 bytes)
    (base : Nat) (v : Value) (n : Nat) (xs : List Value) (u : Value) (hown : w.ownsRow base e 1 v n xs) (hs : a.eval s = v) {gx : Nat} (hx : a.eval x = .slice (some ⟨gx, 0, none⟩) 1 1) (hgx : gx = w.heap.size)
    (hu : u.oneCell' = true) (hbase : base ≤ w.heap.size) (hb : bytes ≤ 1024) (hn : n < 100000000000)
    (h : ∀ g cap w', Pushed w base e 1 v (n + 1) (xs ++ [u]) (.slice (some ⟨g, 0, none⟩) (n + 1) cap) w' → wpList P ops Q rest (a.put o.dst (.slice (some ⟨g, 0, none⟩) (n + 1) cap)) w') :
    wpList P ops Q (o :: rest) a (w.alloc (.cells #[u] e)) := by
  subst hgx
  refine wpList_appendG hgd s x ho E base v n xs hs (hown.alloc _) ⟨w.heap.size, 0, none⟩ 1 1 [u] hx rfl ?_ ?_ (by decide) hb (by omega) (by simp; omega) fun g cap w' hp => h g cap w' hp.of_alloc
  · intro j y hj
    match j, hj with
    | 0, hj => simp at hj; subst hj; simp [Addr.add]
  · intro y hy; simp at hy; subst hy; exact hu

theorem ownsRow_cast {w : World} {B : Nat} {e : TypeId} {s : Nat} {v : Value} {n m : Nat} {xs ys : List Value} (h : w.ownsRow B e s v n xs) (hn : n = m) (hx : xs = ys) : w.ownsRow B e s v m ys := by
  subst hn; subst hx; exact h
/-- An owned row as a block. -/
theorem ownsRow_block {w : World} {B : Nat} {e : TypeId} {s : Nat} {v : Value} {n : Nat} {xs : List Value} (h : w.ownsRow B e s v n xs) {g : Nat} (hg : v.ownBlock = some g) :
    ∃ cur, w.heap[g]? = some (.cells cur e (0, 0)) := by
  rcases h.2 with ⟨rfl, _⟩ | ⟨g', cap, cur, rfl, _, hh, _⟩
  · simp [Value.ownBlock] at hg
  · simp [Value.ownBlock] at hg; subst hg; exact ⟨cur, hh⟩
/-- Owned rows stay owned where their block stays. -/
theorem ownsRow_of_block {w w' : World} {B : Nat} {e : TypeId} {s : Nat} {v : Value} {n : Nat} {xs : List Value} (h : w.ownsRow B e s v n xs)
    (hk : ∀ g, v.ownBlock = some g → w'.heap[g]? = w.heap[g]?) : w'.ownsRow B e s v n xs := by
  refine ⟨h.1, ?_⟩
  rcases h.2 with hn | ⟨g, cap, cur, rfl, hb, hh, r⟩
  · exact .inl hn
  · exact .inr ⟨g, cap, cur, rfl, hb, (hk g rfl).trans hh, r⟩
/-- '&' with a mask of ones, on int, whatever the number. -/
theorem i64_mask (j : Nat) (hj : j ≤ 62) (n : Int) : bits .and .i64 n ((2 : Int) ^ j - 1) = n % 2 ^ j := by
  have h2 : (2 : Int) ^ j = ((2 ^ j : Nat) : Int) := by simp
  have hp : 1 ≤ 2 ^ j := Nat.one_le_two_pow
  have hle : 2 ^ j ≤ 2 ^ 62 := Nat.pow_le_pow_right (by decide) hj
  have hm : (BitVec.ofInt 64 ((2 : Int) ^ j - 1)).toNat = 2 ^ j - 1 := by
    rw [h2, BitVec.toNat_ofInt]; omega
  have hn : (BitVec.ofInt 64 n &&& BitVec.ofInt 64 ((2 : Int) ^ j - 1)).toNat = (n % 18446744073709551616).toNat % 2 ^ j := by
    rw [BitVec.toNat_and, hm, BitVec.toNat_ofInt, Nat.and_two_pow_sub_one_eq_mod]
    simp
  have hd : ((2 ^ j : Nat) : Int) ∣ 18446744073709551616 := by
    have : 2 ^ j ∣ 2 ^ 64 := Nat.pow_dvd_pow 2 (by omega)
    exact Int.natCast_dvd_natCast.2 this
  have hlt := Nat.mod_lt (n % 18446744073709551616).toNat (show 0 < 2 ^ j by omega)
  have he : (((n % 18446744073709551616).toNat % 2 ^ j : Nat) : Int) = n % 2 ^ j := by
    rw [Int.natCast_emod, Int.toNat_of_nonneg (by omega), h2, Int.emod_emod_of_dvd _ hd]
  unfold bits
  show IntKind.i64.wrap ((BitVec.ofInt 64 n &&& BitVec.ofInt 64 ((2 : Int) ^ j - 1)).toNat : Int) = _
  rw [hn, IntKind.wrap_i64, he]
  rw [← he]
  omega
@[go_sem] theorem i64_and1 (n : Int) : bits .and .i64 n 1 = n % 2 := i64_mask 1 (by decide) n
@[go_sem] theorem i64_and3 (n : Int) : bits .and .i64 n 3 = n % 4 := i64_mask 2 (by decide) n
@[go_sem] theorem i64_and7 (n : Int) : bits .and .i64 n 7 = n % 8 := i64_mask 3 (by decide) n
@[go_sem] theorem i64_and15 (n : Int) : bits .and .i64 n 15 = n % 16 := i64_mask 4 (by decide) n
@[go_sem] theorem i64_and31 (n : Int) : bits .and .i64 n 31 = n % 32 := i64_mask 5 (by decide) n
@[go_sem] theorem i64_and63 (n : Int) : bits .and .i64 n 63 = n % 64 := i64_mask 6 (by decide) n
@[go_sem] theorem i64_and127 (n : Int) : bits .and .i64 n 127 = n % 128 := i64_mask 7 (by decide) n
@[go_sem] theorem i64_and255 (n : Int) : bits .and .i64 n 255 = n % 256 := i64_mask 8 (by decide) n
/-- A function with a body is entered. -/
theorem run_enter {P : Program} {f : FuncId} {fn : Func} (hf : P.funcs[f]? = some fn) (hname : (fn.name == "runtime.NumGoroutine") = false) (hb : fn.body.isNone = false) (args : Array Value) (w : World) :
    (callFunc f args).run P w = .ok (.enter f args) w := by
  have h1 : ¬ fn.name = "runtime.NumGoroutine" := by simpa using hname
  have h2 : ¬ fn.body = Option.none := by intro h; simp [h] at hb
  simp [callFunc, hf, h1, h2]
theorem ret_int {k : IntKind} {a b : Int} (h : a = b) : Ending.returned (.int k a) = .returned (.int k b) := by rw [h]
theorem ret_bool {a b : Bool} (h : a = b) : Ending.returned (.bool a) = .returned (.bool b) := by rw [h]
end Go.Proofs.YtcppbdlmcbjmeaaGreatDoor

/-
  More of my own small library: make with a known size; a row that is filled from its head.
-/
namespace Go.Proofs.YtcppbdlmcbjmeaaGreatDoor
open Go.RowKit

/-- So many equal cells (a plain definition, so that the walk does not write them out). -/
def zrow (n : Nat) (z : Value) : Array Value := (List.replicate n z).toArray

theorem wpList_make1B {P : Program} {w : World} {ops : Array Oper} {rest : List Oper} {o : Oper} {a : Act} {Q : Exit → Act → World → Prop} (hgd : o.guard = none) (l c : Operand) {t e : TypeId}
    (hop : o.op = Op.makeSlice t l c) {z : Value} {bytes : Nat} (E : Elt P t e z 1 bytes) (hz1 : z.cells = #[z]) {kl kc : IntKind} {L C : Int} (n : Nat) (hl : a.eval l = .int kl L) (hc : a.eval c = .int kc C)
    (hL : L = (n : Int)) (hC : C = (n : Int)) (hb : bytes * n ≤ 281474976710656) (hn : n ≤ 281474976710656)
    (h : ∀ w', w'.heap[w.heap.size]? = some (.cells (zrow n z) e (0, 0)) → Only [] w w' → w'.heap.size = w.heap.size + 1 →
      wpList P ops Q rest (a.put o.dst (.slice (some ⟨w.heap.size, 0, none⟩) n n)) w') :
    wpList P ops Q (o :: rest) a w := by
  obtain ⟨i, hi, hz, hs, hbt⟩ := info_parts E.hi
  subst hL hC
  have hbytes : (i.bytes : Int) * (n : Int) ≤ 281474976710656 := by
    have h2 : ((i.bytes * n : Nat) : Int) ≤ 281474976710656 := by rw [hbt]; omega
    simpa using h2
  have hr := run_make (P := P) w t e i z E.ht hi hz kl kc n n (by omega) (Int.le_refl _) hbytes (by omega)
  refine wpList_plain hgd fun K hK => ?_
  unfold Oper.wp
  simp [execOp, hop, hl, hc, hr, Result.andThen]
  refine hK _ _ (h _ ?_ ((Only.refl _ _).alloc _) (by simp))
  rw [heap_alloc_at, hz1, hs]
  congr 2
  apply Array.ext'
  rw [toList_madeCells_one]
  simp [zrow]

theorem wpList_make1 {P : Program} {w : World} {ops : Array Oper} {rest : List Oper} {o : Oper} {a : Act} {Q : Exit → Act → World → Prop} (hgd : o.guard = none) (l c : Operand) {t e : TypeId}
    (hop : o.op = Op.makeSlice t l c) {z : Value} {bytes : Nat} (E : Elt P t e z 1 bytes) (hz1 : z.cells = #[z]) {kl kc : IntKind} {L C : Int} (n : Nat) (hl : a.eval l = .int kl L) (hc : a.eval c = .int kc C)
    (hL : L = (n : Int)) (hC : C = (n : Int)) (hb : bytes ≤ 1024) (hn : n ≤ 100000000000)
    (h : ∀ w', w'.heap[w.heap.size]? = some (.cells (zrow n z) e (0, 0)) → Only [] w w' → w'.heap.size = w.heap.size + 1 →
      wpList P ops Q rest (a.put o.dst (.slice (some ⟨w.heap.size, 0, none⟩) n n)) w') :
    wpList P ops Q (o :: rest) a w := by
  have : bytes * n ≤ 1024 * 100000000000 := Nat.mul_le_mul hb hn
  exact wpList_make1B hgd l c hop E hz1 n hl hc hL hC (by omega) (by omega) h

/-- A row whose first k places are filled by f, the others 0. -/
def fillTo (f : Nat → Int) (n k : Nat) : List Int := (List.range n).map fun c => if c < k then f c else 0
theorem fillTo_zero (f : Nat → Int) (n : Nat) : fillTo f n 0 = List.replicate n 0 := by
  unfold fillTo
  apply List.ext_getElem?
  intro i
  by_cases h : i < n <;> simp [h]
theorem fillTo_full (f : Nat → Int) (n : Nat) : fillTo f n n = (List.range n).map f := by
  unfold fillTo
  apply List.map_congr_left
  intro i hi
  rw [if_pos (by simpa using hi)]
theorem fillTo_length (f : Nat → Int) (n k : Nat) : (fillTo f n k).length = n := by simp [fillTo]
theorem fillTo_set (f : Nat → Int) (n k : Nat) (v : Int) (hv : v = f k) : (fillTo f n k).set k v = fillTo f n (k + 1) := by
  subst hv
  unfold fillTo
  apply List.ext_getElem?
  intro i
  by_cases h : i < n
  · by_cases hk : k = i
    · subst hk; simp [h]
    · have h1 : (i < k + 1) ↔ (i < k) := by omega
      simp [h, hk, h1]
  · simp [h]
def ints (xs : List Int) : Array Value := (xs.map (Value.int .i64)).toArray
theorem ints_size (xs : List Int) : (ints xs).size = xs.length := by simp [ints]
theorem ints_at (xs : List Int) (i : Nat) (h : i < xs.length) : (ints xs)[i]? = some (.int .i64 (xs.getD i 0)) := by
  simp [ints, h, List.getD]
theorem ints_setIf (xs : List Int) (i : Nat) (v : Int) : (ints xs).setIfInBounds i (.int .i64 v) = ints (xs.set i v) := by
  unfold ints
  rw [List.map_set]
  simp
theorem ints_replicate (n : Nat) : zrow n (.int .i64 0) = ints (List.replicate n 0) := by simp [ints, zrow]
/-- 'int(uint(v) % m)': a number below m. -/
theorem u64mod (v : Int) (m : Nat) (h0 : 0 < m) (h1 : m < 4611686018427387904) : ∃ k : Nat, wrap64 ((IntKind.u64.wrap v).tmod (m : Int)) = (k : Int) ∧ k < m := by
  have hw : 0 ≤ IntKind.u64.wrap v := by rw [IntKind.wrap_u64]; omega
  obtain ⟨n, hn⟩ := Int.eq_ofNat_of_zero_le hw
  refine ⟨n % m, ?_, Nat.mod_lt _ h0⟩
  rw [hn, Int.tmod_eq_emod_of_nonneg (by omega)]
  have h2 : ((n : Int) % (m : Int)) = ((n % m : Nat) : Int) := by simp
  have h3 := Nat.mod_lt n h0
  rw [h2]
  exact IntWalk.wrap64_in _ ⟨by omega, by omega⟩
/-- Two texts that differ, as the walk asks it. -/
theorem text_ne {a b : ByteArray} (h : a ≠ b) : (a.toList == b.toList) = false := by
  rw [beq_eq_false_iff_ne]
  intro e
  rw [ByteArray.toList_eq, ByteArray.toList_eq] at e
  apply h
  cases a; cases b
  congr
  exact Array.ext' e
theorem text_eq {a b : ByteArray} (h : a = b) : (a.toList == b.toList) = true := by
  subst h; simp
theorem u64rem (v : Int) (m : Nat) (h0 : 0 < m) : ∃ k : Nat, (IntKind.u64.wrap v).tmod (m : Int) = (k : Int) ∧ k < m := by
  have hw : 0 ≤ IntKind.u64.wrap v := by rw [IntKind.wrap_u64]; omega
  obtain ⟨n, hn⟩ := Int.eq_ofNat_of_zero_le hw
  refine ⟨n % m, ?_, Nat.mod_lt _ h0⟩
  rw [hn, Int.tmod_eq_emod_of_nonneg (by omega)]
  simp
/-- The shape of an owned row that is not empty, and its cells. -/
theorem owned_shape {w : World} {B : Nat} {e : TypeId} {v : Value} {n : Nat} {xs : List Value} (h : w.ownsRow B e 1 v n xs) (hn : 0 < n) :
    ∃ g cap cur, v = .slice (some ⟨g, 0, none⟩) n cap ∧ B ≤ g ∧ w.heap[g]? = some (.cells cur e (0, 0)) ∧ ∀ i, i < n → w.cell? ⟨g, i, none⟩ = xs[i]? := by
  rcases h.2 with ⟨_, h0⟩ | ⟨g, cap, cur, rfl, hb, hg, _⟩
  · omega
  · exact ⟨g, cap, cur, rfl, hb, hg, fun i hi => h.cellAt i (by omega)⟩
theorem Only.cell {S : List Nat} {w w' : World} (h : Only S w w') {a : Addr} {v : Value} (hc : w.cell? a = some v) (hs : a.block ∉ S) : w'.cell? a = some v :=
  (World.cell?_of_block (h.block a.block (World.block_lt_of_cell? w a hc) hs)).trans hc
theorem Only.drewN {S : List Nat} {a w : World} (h : Only S a w) (n : Nat) : Only S a (w.drewN n) := ⟨h.os, h.tape, h.output, h.size, h.block⟩
end Go.Proofs.YtcppbdlmcbjmeaaGreatDoor

/-
  More of my own small library: copy into a known block, as a step of a region and as a law of the walk.
-/
namespace Go.Proofs.YtcppbdlmcbjmeaaGreatDoor
open Go.RowKit

theorem step_copy_block {P : Program} {ops : Array Oper} {o : Oper} {a : Act} {w : World} {K : Act → World → Prop} {Q : Exit → Act → World → Prop} {E : Prop} (hgd : o.guard = none) (d s : Operand) (dT sT : TypeId)
    (ho : o.op = .call { callee := .builtin .copy, args := #[d, s], argTypes := #[dT, sT] }) (elem : TypeId) (hu : P.underlying dT = some (.slice elem)) (hsz : (P.info? elem).map (·.size) = some 1)
    (g off dLen dCap : Nat) (ad : Addr) (sLen sCap : Nat) (hd : a.eval d = .slice (some ⟨g, off, none⟩) dLen dCap) (hs : a.eval s = .slice (some ad) sLen sCap)
    (cur : Array Value) (t : TypeId) (hg : w.heap[g]? = some (.cells cur t (0, 0))) (cs : List Value) (hn : cs.length = Nat.min sLen dLen)
    (hsrc : ∀ j v, cs[j]? = some v → w.cell? (ad.add j) = some v) (hfit : off + cs.length ≤ cur.size) (h1 : ∀ v ∈ cs, v.oneCell' = true)
    (h : ∀ w', w'.heap[g]? = some (.cells (cur.toList.take off ++ (cs ++ cur.toList.drop (off + cs.length))).toArray t (0, 0)) → Only [g] w w' → K (a.put o.dst (goInt cs.length)) w') :
    if Region.wanted o (yielded ops a.tmps) = true then Oper.wp P o a w K Q else E := by
  have hw : Region.wanted o (yielded ops a.tmps) = true := by simp [Region.wanted, hgd]
  rw [if_pos hw]
  have hrun := run_copy_row (P := P) w dT sT o.type elem g off dLen dCap ad sLen sCap cur t cs hu hsz hg hn hsrc hfit h1
  unfold Oper.wp
  simp [execOp, ho, resolve, invoke, builtin, hd, hs, hrun, Result.andThen]
  refine h _ (setRow_heap w g cur _ t _ hg) ⟨rfl, rfl, rfl, by simp [World.setRow], fun k _ hk => setRow_other w g k _ (by simpa using hk)⟩
theorem wpList_copy_block {P : Program} {w : World} {ops : Array Oper} {rest : List Oper} {o : Oper} {a : Act} {Q : Exit → Act → World → Prop} (hgd : o.guard = none) (d s : Operand) (dT sT : TypeId)
    (ho : o.op = .call { callee := .builtin .copy, args := #[d, s], argTypes := #[dT, sT] }) (elem : TypeId) (hu : P.underlying dT = some (.slice elem)) (hsz : (P.info? elem).map (·.size) = some 1)
    (g off dLen dCap : Nat) (ad : Addr) (sLen sCap : Nat) (hd : a.eval d = .slice (some ⟨g, off, none⟩) dLen dCap) (hs : a.eval s = .slice (some ad) sLen sCap)
    (cur : Array Value) (t : TypeId) (hg : w.heap[g]? = some (.cells cur t (0, 0))) (cs : List Value) (hn : cs.length = Nat.min sLen dLen)
    (hsrc : ∀ j v, cs[j]? = some v → w.cell? (ad.add j) = some v) (hfit : off + cs.length ≤ cur.size) (h1 : ∀ v ∈ cs, v.oneCell' = true)
    (h : ∀ w', w'.heap[g]? = some (.cells (cur.toList.take off ++ (cs ++ cur.toList.drop (off + cs.length))).toArray t (0, 0)) → Only [g] w w' → wpList P ops Q rest (a.put o.dst (goInt cs.length)) w') :
    wpList P ops Q (o :: rest) a w := by
  refine wpList_plain hgd fun K hK => ?_
  have hrun := run_copy_row (P := P) w dT sT o.type elem g off dLen dCap ad sLen sCap cur t cs hu hsz hg hn hsrc hfit h1
  unfold Oper.wp
  simp [execOp, ho, resolve, invoke, builtin, hd, hs, hrun, Result.andThen]
  refine hK _ _ (h _ (setRow_heap w g cur _ t _ hg) ⟨rfl, rfl, rfl, by simp [World.setRow], fun k _ hk => setRow_other w g k _ (by simpa using hk)⟩)
end Go.Proofs.YtcppbdlmcbjmeaaGreatDoor

/-
  More of my own small library: the text of an owned slice of bytes.
-/
namespace Go.Proofs.YtcppbdlmcbjmeaaGreatDoor
open Go.RowKit

/-- The text of a slice of bytes that the call itself has made. -/
theorem run_text {P : Program} {w : World} {B src e dst : TypeId} {v : Value} {xs : List Int} (hs : P.underlying src = some (.slice e)) (he : P.underlying e = some (.int .u8)) (hd : P.underlying dst = some .string)
    (hown : w.ownsRow B e 1 v xs.length (xs.map (Value.int .u8))) : (convert src dst v).run P w = .ok (.string (strOfNums xs)) w := by
  rcases hown.2 with ⟨rfl, h⟩ | ⟨g, cap, cur, rfl, _⟩
  · have : xs = [] := List.eq_nil_of_length_eq_zero h
    subst this
    exact run_convert_bytes_nil w src e hs he 0 0 dst hd
  · refine run_convert_bytes_arg w src e hs he g 0 xs.length cap xs rfl ?_ dst hd
    intro i hi
    rw [Nat.zero_add, hown.cellAt i (by omega)]
    simp [List.getElem?_eq_getElem hi]
end Go.Proofs.YtcppbdlmcbjmeaaGreatDoor

/-
  More of my own small library: a long slice literal of ints in one step.
-/
namespace Go.Proofs.YtcppbdlmcbjmeaaGreatDoor
open Go.RowKit

theorem wpList_literal {P : Program} {w : World} {ops : Array Oper} {rest : List Oper} {o : Oper} {a : Act} {Q : Exit → Act → World → Prop} (hgd : o.guard = none) (t : TypeId) (len : Nat) (parts : Array (Nat × Operand))
    (ho : o.op = .buildSlice t len parts) {e : TypeId} {z : Value} {bytes : Nat} (E : Elt P t e z 1 bytes) (hz1 : z.cells = #[z]) (cells : Array Value) (h0 : 0 < len) (hlen : len ≤ 16777216)
    (hfill : Instr.fill (fun i => some (i * 1, 1)) ((Array.range (len * 1)).map (#[z][· % 1]!)) (parts.map fun (i, x) => (i, a.eval x)).toList = some cells)
    (h : wpList P ops Q rest (a.put o.dst (.slice (some ⟨w.heap.size, 0, none⟩) len len)) (w.alloc (.cells cells e))) :
    wpList P ops Q (o :: rest) a w := by
  obtain ⟨i, hi, hz, hs, hbt⟩ := info_parts E.hi
  refine wpList_plain hgd fun K hK => ?_
  unfold Oper.wp execOp
  have hsz : z.cells.size = 1 := E.zs
  have hrun : (Instr.buildSlice t len (parts.map fun (i, x) => (i, a.eval x))).run P w = .ok (.slice (some ⟨w.heap.size, 0, none⟩) len len) (w.alloc (.cells cells e)) := by
    have h1 : ¬ (len > 16777216) := by omega
    have h2 : ¬ (len = 0) := by omega
    have hfill' : Instr.fill (fun i => some (i, 1)) ((Array.range len).map (#[z][· % 1]!)) (parts.map fun (i, x) => (i, a.eval x)).toList = some cells := by simpa using hfill
    simp [Instr.buildSlice, run_underlying E.ht, sizeOf, typeInfo, hi, hs, h1, h2, zeroValue, hz, hz1] at hfill' ⊢
    simp [hfill', newRow]
  simp only [ho, Sem.run_bind, hrun, Result.andThen_ok]
  exact hK _ _ h
end Go.Proofs.YtcppbdlmcbjmeaaGreatDoor

namespace Go.Proofs.YtcppbdlmcbjmeaaGreatDoor

def u8s (xs : List Int) : Array Value := (xs.map (Value.int .u8)).toArray
theorem u8s_size (xs : List Int) : (u8s xs).size = xs.length := by simp [u8s]
theorem u8s_at (xs : List Int) (i : Nat) (h : i < xs.length) : (u8s xs)[i]? = some (.int .u8 (xs.getD i 0)) := by
  simp [u8s, h, List.getD]
theorem u8s_setIf (xs : List Int) (i : Nat) (v : Int) : (u8s xs).setIfInBounds i (.int .u8 v) = u8s (xs.set i v) := by
  unfold u8s
  rw [List.map_set]
  simp
theorem u8s_replicate (n : Nat) (v : Int) : zrow n (.int .u8 v) = u8s (List.replicate n v) := by simp [u8s, zrow]
/-- The place of a block's i-th sample in a plane. -/
def spot (pw x y w i : Nat) : Nat := (y + i / w) * pw + x + i % w
/-- A block that is laid down: its first k samples. -/
def putTo (pw x y w : Nat) (block pl : List Int) : Nat → List Int
  | 0 => pl
  | k + 1 => (putTo pw x y w block pl k).set (spot pw x y w k) (block.getD k 0)
theorem putTo_length (pw x y w : Nat) (block pl : List Int) (k : Nat) : (putTo pw x y w block pl k).length = pl.length := by
  induction k with
  | zero => rfl
  | succ k ih => simp [putTo, ih]
def clip8 (v : Int) : Int := min (max v 0) 255
/-- Sums that are added to a block of four by four. -/
def addTo (pw x y : Nat) (c pl : List Int) : Nat → List Int
  | 0 => pl
  | k + 1 => (addTo pw x y c pl k).set (spot pw x y 4 k) (clip8 ((addTo pw x y c pl k).getD (spot pw x y 4 k) 0 + c.getD k 0))
theorem addTo_length (pw x y : Nat) (c pl : List Int) (k : Nat) : (addTo pw x y c pl k).length = pl.length := by
  induction k with
  | zero => rfl
  | succ k ih => simp [addTo, ih]
theorem clip8_range (v : Int) : 0 ≤ clip8 v ∧ clip8 v ≤ 255 := by unfold clip8; omega
theorem clip8_id {v : Int} (h0 : 0 ≤ v) (h1 : v ≤ 255) : clip8 v = v := by unfold clip8; omega
/-- All samples of a plane lie within their limits. -/
def okPl (pl : List Int) : Prop := ∀ i, 0 ≤ pl.getD i 0 ∧ pl.getD i 0 ≤ 255
theorem getD_set' (xs : List Int) (c i : Nat) (v : Int) : (xs.set c v).getD i 0 = if c = i ∧ c < xs.length then v else xs.getD i 0 := by
  simp only [List.getD, List.getElem?_set]
  by_cases h : c = i
  · subst h
    by_cases h2 : c < xs.length <;> simp [h2]
  · simp [h]
theorem okPl_set {pl : List Int} (h : okPl pl) (i : Nat) (v : Int) (h0 : 0 ≤ v) (h1 : v ≤ 255) : okPl (pl.set i v) := by
  intro j
  rw [getD_set']
  split
  · exact ⟨h0, h1⟩
  · exact h j
theorem okPl_put {pl block : List Int} (h : okPl pl) (hb : okPl block) (pw x y w k : Nat) : okPl (putTo pw x y w block pl k) := by
  induction k with
  | zero => exact h
  | succ k ih => exact okPl_set ih _ _ (hb k).1 (hb k).2
theorem okPl_add {pl : List Int} (h : okPl pl) (c : List Int) (pw x y k : Nat) : okPl (addTo pw x y c pl k) := by
  induction k with
  | zero => exact h
  | succ k ih => exact okPl_set ih _ _ (clip8_range _).1 (clip8_range _).2
theorem okPl_replicate (n : Nat) (v : Int) (h0 : 0 ≤ v) (h1 : v ≤ 255) : okPl (List.replicate n v) := by
  intro i
  simp only [List.getD, List.getElem?_replicate]
  split <;> simp <;> omega
/-- A plane of two values. -/
def duo (a b : Int) (fl : List Bool) : List Int := fl.map fun q => if q then b else a
theorem duo_set (a b : Int) (fl : List Bool) (i : Nat) : (duo a b fl).set i b = duo a b (fl.set i true) := by
  unfold duo
  rw [List.map_set]
  rfl
def putFl (pw x y w : Nat) (fl : List Bool) : Nat → List Bool
  | 0 => fl
  | k + 1 => (putFl pw x y w fl k).set (spot pw x y w k) true
theorem putTo_duo (a b : Int) (pw x y w n : Nat) (fl : List Bool) : ∀ k, k ≤ n → putTo pw x y w (List.replicate n b) (duo a b fl) k = duo a b (putFl pw x y w fl k) := by
  intro k
  induction k with
  | zero => intro _; rfl
  | succ k ih =>
    intro hk
    rw [putTo, ih (by omega), putFl, ← duo_set]
    congr 1
    simp only [List.getD, List.getElem?_replicate, if_pos (show k < n by omega), Option.getD_some]
theorem duo_false (a b : Int) (n : Nat) : duo a b (List.replicate n false) = List.replicate n a := by simp [duo]
theorem duo_true (a b : Int) (n : Nat) : duo a b (List.replicate n true) = List.replicate n b := by simp [duo]
theorem duo_at (a b : Int) (fl : List Bool) (i : Nat) (h : i < fl.length) : (duo a b fl).getD i 0 = if fl.getD i false then b else a := by
  simp [duo, List.getD, h]
theorem duo_length (a b : Int) (fl : List Bool) : (duo a b fl).length = fl.length := by simp [duo]
end Go.Proofs.YtcppbdlmcbjmeaaGreatDoor
