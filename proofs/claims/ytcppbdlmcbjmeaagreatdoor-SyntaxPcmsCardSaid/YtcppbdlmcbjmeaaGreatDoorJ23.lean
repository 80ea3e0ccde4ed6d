/-
  The walks over package engine's encoder: a bit, a bit with those outstanding, renorm, may. The walks over package bits: the writer's put (bits laid into bytes, the first one highest).
-/
import Derived.Test.YtcppbdlmcbjmeaaGreatDoorJ07
import Derived.StillTailTactics
import Derived.Deep.RegionHeld3
namespace Go.Proofs.YtcppbdlmcbjmeaaGreatDoor
open Go.RowKit

/-- An encoder's cells. -/
def encCells (tb sb L : Nat) (low wid outs : Int) (begun over : Bool) (ov : Value) (n : Int) : Array Value :=
  #[.pointer (some ⟨tb, 0, none⟩), .slice (some ⟨sb, 0, none⟩) L L, .int .i64 low, .int .i64 wid, .int .i64 outs, .bool begun, .bool over, ov, .int .i64 n]
def bytesOf (ys : List Int) : List Value := ys.map (Value.int .u8)

/-- The encoder e lies in block b, its tables in tb, its states in sb, its bytes in the slice ov. -/
structure EncIs (w : World) (b tb sb : Nat) (ov : Value) (e : Enc) : Prop where
  cells : w.heap[b]? = some (.cells (encCells tb sb e.st.length e.low e.wid e.outs e.begun e.over ov e.bits.length) 158 (0, 0))
  tab : TableAt w tb
  sts : w.heap[sb]? = some (.cells (ints e.st) 3 (0, 0))
  out : w.ownsRow 0 5 1 ov (packed e.bits).length (bytesOf (packed e.bits))

theorem block_type {w : World} {b c : Nat} {cs ds : Array Value} {s t : TypeId} (h : w.heap[b]? = some (.cells cs s (0, 0))) (k : w.heap[c]? = some (.cells ds t (0, 0))) (hst : s ≠ t) : b ≠ c := by
  rintro rfl
  rw [h] at k
  simp at k
  exact hst k.2

/-- A bit is laid into a byte of go's. -/
theorem u8_lay_all : ∀ r : Nat, r < 8 → ∀ y : Nat, y < 256 → (y : Int) % (2 * place r) = 0 → ∀ x : Nat, x < 2 → bits .or .u8 (y : Int) ((x : Int) * 2 ^ (7 - r % 8) % 256) = (y : Int) + (x : Int) * place r := by decide +kernel
theorem u8_lay (r : Nat) (y x : Int) (hr : r < 8) (h0 : 0 ≤ y) (h1 : y ≤ 255) (hm : y % (2 * place r) = 0) (hx : x = 0 ∨ x = 1) : bits .or .u8 y (x * 2 ^ (7 - r % 8) % 256) = y + x * place r := by
  obtain ⟨y, rfl⟩ := Int.eq_ofNat_of_zero_le h0
  obtain ⟨x, rfl⟩ := Int.eq_ofNat_of_zero_le (show 0 ≤ x by omega)
  exact u8_lay_all r hr y (by omega) hm x (by omega)
theorem place_mod (q r : Nat) : place (8 * q + r) = place r := by unfold place; rw [Nat.mul_add_mod]
theorem bytesOf_set (ys : List Int) (i : Nat) (v : Int) : (bytesOf ys).set i (.int .u8 v) = bytesOf (ys.set i v) := by unfold bytesOf; rw [List.map_set]
/-- An owned row of one-cell elements behind a store into it. -/
theorem ownsRow_set {w : World} {B : Nat} {e : TypeId} {g n cap i : Nat} {xs : List Value} (u : Value) (h : w.ownsRow B e 1 (.slice (some ⟨g, 0, none⟩) n cap) n xs) (hi : i < n) :
    (w.setCell ⟨g, i, none⟩ u).ownsRow B e 1 (.slice (some ⟨g, 0, none⟩) n cap) n (xs.set i u) := by
  refine ⟨by rw [List.length_set]; exact h.1, ?_⟩
  rcases h.2 with ⟨h1, _⟩ | ⟨g', cap', cur, h1, hb, hh, hn, hc, hs, ht⟩
  · simp at h1
  · simp only [Value.slice.injEq, Option.some.injEq, Addr.mk.injEq] at h1
    obtain ⟨⟨rfl, -⟩, -, rfl⟩ := h1
    refine .inr ⟨g, cap, _, rfl, hb, heap_set_same u hh, hn, hc, by simpa using hs, ?_⟩
    have hi2 : i < cur.size := by omega
    rw [show cur.setIfInBounds i u = cur.set i u hi2 by simp [Array.setIfInBounds, hi2], Array.toList_set, List.take_set, ht]

/-- The encoder while a bit is laid: its last byte has room. -/
structure EncMid (w : World) (b tb sb g q r cap : Nat) (e : Enc) : Prop where
  len : e.bits.length = 8 * q + r
  low : r < 8
  cells : w.heap[b]? = some (.cells (encCells tb sb e.st.length e.low e.wid e.outs e.begun e.over (.slice (some ⟨g, 0, none⟩) (q + 1) cap) (8 * (q : Int) + r)) 158 (0, 0))
  tab : TableAt w tb
  sts : w.heap[sb]? = some (.cells (ints e.st) 3 (0, 0))
  out : w.ownsRow 0 5 1 (.slice (some ⟨g, 0, none⟩) (q + 1) cap) (q + 1) (bytesOf (roomed e.bits))
theorem EncMid.done {w : World} {b tb sb g q r cap : Nat} {e : Enc} (h : EncMid w b tb sb g q r cap e) (x y : Int) (hy : byteAt e.bits q = y) :
    EncIs ((w.setCell ⟨g, q, none⟩ (.int .u8 (y + x * place r))).setCell ⟨b, 8, none⟩ (.int .i64 (8 * (q : Int) + r + 1))).drew b tb sb (.slice (some ⟨g, 0, none⟩) (q + 1) cap) (e.bit x) := by
  have hlow := h.low
  obtain ⟨cur, hg⟩ := ownsRow_block h.out rfl
  have n1 : b ≠ g := block_type h.cells hg (by decide)
  have n2 : tb ≠ g := block_type h.tab hg (by decide)
  have n3 : sb ≠ g := block_type h.sts hg (by decide)
  have n4 : tb ≠ b := block_type h.tab h.cells (by decide)
  have n5 : sb ≠ b := block_type h.sts h.cells (by decide)
  have hq : e.bits.length / 8 = q := by have := h.len; omega
  have hp : packed (e.bit x).bits = (roomed e.bits).set q (y + x * place r) := by
    show packed (e.bits ++ [x]) = _
    rw [packed_snoc, hq, hy, h.len, place_mod]
  have hl : (packed (e.bit x).bits).length = q + 1 := by rw [hp, List.length_set, roomed_length, hq]
  refine ⟨?_, ?_, ?_, ?_⟩
  · show (World.setCell _ _ _).heap[b]? = _
    rw [heap_set_same _ (heap_set_other _ h.cells n1)]
    have hb : ((e.bit x).bits.length : Int) = 8 * (q : Int) + r + 1 := by simp [Enc.bit, h.len]
    rw [hb]
    rfl
  · exact heap_set_other _ (heap_set_other _ h.tab n2) n4
  · exact heap_set_other _ (heap_set_other _ h.sts n3) n5
  · rw [hl, hp, ← bytesOf_set]
    have h1 := ownsRow_set (.int .u8 (y + x * place r)) h.out (i := q) (by omega)
    refine ownsRow_of_block (w := w.setCell ⟨g, q, none⟩ (.int .u8 (y + x * place r))) h1 ?_
    intro k hk
    simp [Value.ownBlock] at hk
    subst hk
    exact Below.heap_setCell _ _ _ _ (fun e => n1 e.symm)

set_option maxRecDepth 100000 in
set_option maxHeartbeats 800000 in
theorem eng_bit (b tb sb : Nat) (ov : Value) (e : Enc) (x : Int) (w : World) (he : EncIs w b tb sb ov e) (hx : x = 0 ∨ x = 1) (hb : ∀ y ∈ e.bits, y = 0 ∨ y = 1) (hn : e.bits.length < 1000000000) :
    Calls Tryz.prog 77 #[.pointer (some ⟨b, 0, none⟩), .int .i64 x] w fun r w' => r = .returned (.tuple #[]) ∧ ∃ ov', EncIs w' b tb sb ov' (e.bit x) ∧ Only (b :: ov.ownBlock.toList) w w' ∧ ∀ g, ov'.ownBlock = some g → ov.ownBlock = some g ∨ w.heap.size ≤ g := by
  have c1 : w.cell? ⟨b, 8, none⟩ = some (.int .i64 e.bits.length) := by rw [cells_of he.cells]; rfl
  have c2 : w.cell? ⟨b, 7, none⟩ = some ov := by rw [cells_of he.cells]; rfl
  have z1 := free_of he.cells 7
  have z2 := free_of he.cells 8
  obtain ⟨q, r, hqr, hr⟩ : ∃ q r : Nat, e.bits.length = 8 * q + r ∧ r < 8 := ⟨e.bits.length / 8, e.bits.length % 8, by omega, by omega⟩
  have hown := he.out
  rw [packed_length, hqr] at hown
  have c1' : w.cell? ⟨b, 8, none⟩ = some (.int .i64 (8 * (q : Int) + r)) := by rw [c1, hqr]; simp
  clear c1
  rw [hqr] at hn
  have Hqr := Lib.hid hqr
  have He := Lib.hid he
  have Hb := Lib.hid hb
  clear hqr he hb
  go_enter Tryz.func77, Tryz.ntmps77
  by_cases h8 : r = 0
  · subst h8
    rw [show (8 * q + 0 + 7) / 8 = q by omega] at hown
    go_wp2_with (at_builtin; refine wpList_push rfl _ _ rfl elt8 0 _ _ _ _ hown rfl rfl (by simp) rfl (by omega) (by decide) (by omega) ?_)
    intro g cap w2 hp
    have hbl := lt_of_block He.out.cells
    have hk : ∀ k, k < w.heap.size → ov.ownBlock ≠ some k → w2.heap[k]? = w.heap[k]? := fun k hk hr => hp.2.1.block k hk (fun e => hr e.symm)
    have hob : ∀ k cs t, w.heap[k]? = some (.cells cs t (0, 0)) → t ≠ 5 → ov.ownBlock ≠ some k := fun k cs t h1 h2 h3 => by
      obtain ⟨cur, hc⟩ := ownsRow_block hown h3
      exact block_type h1 hc h2 rfl
    have hcb := (hk b hbl (hob b _ _ He.out.cells (by decide))).trans He.out.cells
    have htb := (hk tb (lt_of_block He.out.tab) (hob tb _ _ He.out.tab (by decide))).trans He.out.tab
    have hsb := (hk sb (lt_of_block He.out.sts) (hob sb _ _ He.out.sts (by decide))).trans He.out.sts
    have hlen : e.bits.length = 8 * q + 0 := Hqr.out
    have hro : bytesOf (packed e.bits) ++ [Value.int .u8 0] = bytesOf (roomed e.bits) := by
      rw [roomed_new _ (by omega)]
      simp [bytesOf]
    have ho2 := hp.1
    rw [hro] at ho2
    obtain ⟨g2, hg2, hgf⟩ : ∃ g2, Value.slice (some ⟨g, 0, none⟩) (q + 1) cap = .slice (some ⟨g2, 0, none⟩) (q + 1) cap ∧ (ov.ownBlock = some g2 ∨ w.heap.size ≤ g2) := by
      obtain ⟨g2, cap2, h1, h2⟩ := hp.2.2
      simp only [Value.slice.injEq, Option.some.injEq, Addr.mk.injEq] at h1
      obtain ⟨⟨rfl, -⟩, -, -⟩ := h1
      exact ⟨_, rfl, h2⟩
    simp only [Value.slice.injEq, Option.some.injEq, Addr.mk.injEq] at hg2
    obtain ⟨⟨rfl, -⟩, -, -⟩ := hg2
    obtain ⟨cur, hgb⟩ := ownsRow_block ho2 rfl
    have hg : g ≠ b := block_type hgb hcb (by decide)
    have hy : byteAt e.bits q = 0 := by
      unfold byteAt
      rw [getD_beyond, getD_beyond, getD_beyond, getD_beyond, getD_beyond, getD_beyond, getD_beyond, getD_beyond] <;> omega
    have c3 : w2.cell? ⟨g, q, none⟩ = some (.int .u8 0) := by
      rw [ho2.cellAt (g := g) (j := q) (by omega), ← hro]
      rw [List.getElem?_append_right (by simp [bytesOf, packed_length]; omega)]
      simp [bytesOf, packed_length, show q - (e.bits.length + 7) / 8 = 0 by omega]
    have z3 := free_of hgb q
    have d1 : w2.cell? ⟨b, 8, none⟩ = some (.int .i64 (8 * (q : Int) + (0 : Nat))) := by rw [cells_of hcb, hlen]; simp [encCells]
    have d2 : w2.cell? ⟨b, 7, none⟩ = some ov := by rw [cells_of hcb]; rfl
    have y1 := free_of hcb 7
    have y2 := free_of hcb 8
    have hmid : EncMid (w2.setCell ⟨b, 7, none⟩ (.slice (some ⟨g, 0, none⟩) (q + 1) cap)) b tb sb g q 0 cap e := by
      refine ⟨hlen, by omega, ?_, ?_, ?_, ?_⟩
      · rw [heap_set_same _ hcb, hlen]
        simp [encCells]
      · exact heap_set_other _ htb (block_type htb hcb (by decide))
      · exact heap_set_other _ hsb (block_type hsb hcb (by decide))
      · exact ownsRow_of_block ho2 (fun k hk => by
          simp [Value.ownBlock] at hk
          subst hk
          exact Below.heap_setCell _ _ _ _ hg)
    have hon : Only (b :: ov.ownBlock.toList) w w2 := (Only.refl _ _).grown hp.2.1 (fun k hk => .inl (by simp [hk]))
    have hgs : g ∈ b :: ov.ownBlock.toList ∨ w.heap.size ≤ g := hgf.elim (fun h => .inl (by simp [h])) .inr
    have Hmid := Lib.hid hmid
    have Hon := Lib.hid hon
    have Hy := Lib.hid hy
    have Hgf := Lib.hid hgf
    have Hgs := Lib.hid hgs
    clear hcb htb hsb hp ho2 hro hob hk hmid hon hy hgb hgf hgs hown c2 z1 z2 c1' hlen
    go_wp2
    go_region
    rw [show bits .or .u8 0 (x * 128) = 0 + x * place 0 by rcases hx with rfl | rfl <;> decide]
    go_wp2
    go_end0
    have h1 := Hmid.out.done x 0 Hy.out
    rw [Int.zero_add, show (8 * (q : Int) + ((0 : Nat) : Int) + 1) = 8 * q + 1 by simp] at h1
    refine ⟨rfl, _, h1, (((Hon.out.setCell (.inl (by simp)) _).setCell Hgs.out _).setCell (.inl (by simp)) _).drew, fun g' hg' => ?_⟩
    simp [Value.ownBlock] at hg'
    subst hg'
    exact Hgf.out
  · rw [show (8 * q + r + 7) / 8 = q + 1 by omega] at hown
    obtain ⟨g, cap, cur, rfl, _, hgb, hcell⟩ := owned_shape hown (by omega)
    have c3 : w.cell? ⟨g, q, none⟩ = some (.int .u8 (byteAt e.bits q)) := by
      rw [hcell _ (by omega)]
      simp [bytesOf, packed, show q < (e.bits.length + 7) / 8 by have := Hqr.out; omega]
    have z3 := free_of hgb q
    have hy := byteAt_range e.bits Hb.out q
    generalize hyy : byteAt e.bits q = y at *
    obtain ⟨hy0, hy1⟩ := hy
    have Hyy := Lib.hid hyy
    have hg : g ≠ b := block_type hgb He.out.cells (by decide)
    have Hgb := Lib.hid hgb
    clear hcell hyy hgb
    go_wp2
    go_region
    have Hm := byteAt_mod e.bits
    rw [show e.bits.length / 8 = q by have := Hqr.out; omega, Hyy.out, Hqr.out, place_mod] at Hm
    rw [u8_lay r y x hr hy0 hy1 Hm hx]
    go_wp2
    go_end0
    have hmid : EncMid w b tb sb g q r cap e := by
      have h0 := He.out
      have hl := Hqr.out
      refine ⟨hl, hr, ?_, h0.tab, h0.sts, ?_⟩
      · have := h0.cells
        rw [hl] at this
        simpa using this
      · rw [roomed_old _ (by omega)]
        exact hown
    refine ⟨rfl, _, hmid.done x y Hyy.out, (((Only.refl _ _).setCell (.inl (by simp [Value.ownBlock])) _).setCell (.inl (by simp)) _).drew, fun g' hg' => .inl hg'⟩

/-- What an encoder's call may have changed: its own block, its bytes' block; its bytes lie where they lay or in a new block. -/
structure EncTo (w w' : World) (b : Nat) (ov ov' : Value) : Prop where
  only : Only (b :: ov.ownBlock.toList) w w'
  new : ∀ g, ov'.ownBlock = some g → ov.ownBlock = some g ∨ w.heap.size ≤ g
theorem EncTo.refl (w : World) (b : Nat) (ov : Value) : EncTo w w b ov ov := ⟨Only.refl _ _, fun _ h => .inl h⟩
theorem EncTo.trans {w1 w2 w3 : World} {b : Nat} {o1 o2 o3 : Value} (h : EncTo w1 w2 b o1 o2) (k : EncTo w2 w3 b o2 o3) : EncTo w1 w3 b o1 o3 := by
  refine ⟨h.only.trans' k.only ?_, fun g hg => ?_⟩
  · intro i hi
    simp only [List.mem_cons, Option.mem_toList] at hi
    rcases hi with rfl | hi
    · exact .inl (by simp)
    · rcases h.new i hi with h1 | h1
      · exact .inl (by simp [h1])
      · exact .inr h1
  · rcases k.new g hg with h1 | h1
    · exact h.new g h1
    · exact .inr (Nat.le_trans h.only.size h1)
theorem EncTo.set {w1 w2 : World} {b : Nat} {o1 o2 : Value} (h : EncTo w1 w2 b o1 o2) (i : Nat) (u : Value) : EncTo w1 (w2.setCell ⟨b, i, none⟩ u) b o1 o2 :=
  ⟨h.only.setCell (.inl (by simp)) _, h.new⟩
theorem EncTo.drew {w1 w2 : World} {b : Nat} {o1 o2 : Value} (h : EncTo w1 w2 b o1 o2) : EncTo w1 w2.drew b o1 o2 := ⟨h.only.drew, h.new⟩
theorem EncTo.drewN {w1 w2 : World} {b : Nat} {o1 o2 : Value} (h : EncTo w1 w2 b o1 o2) (n : Nat) : EncTo w1 (w2.drewN n) b o1 o2 := ⟨h.only.drewN n, h.new⟩
theorem EncIs.put {w : World} {b tb sb : Nat} {ov : Value} {e : Enc} (h : EncIs w b tb sb ov e) (i : Nat) (u : Value) (e' : Enc) (hst : e'.st = e.st) (hbits : e'.bits = e.bits)
    (hc : (encCells tb sb e.st.length e.low e.wid e.outs e.begun e.over ov e.bits.length).setIfInBounds i u = encCells tb sb e.st.length e'.low e'.wid e'.outs e'.begun e'.over ov e.bits.length) :
    EncIs (w.setCell ⟨b, i, none⟩ u) b tb sb ov e' := by
  refine ⟨?_, heap_set_other _ h.tab (block_type h.tab h.cells (by decide)), ?_, ?_⟩
  · rw [heap_set_same _ h.cells, hc, hst, hbits]
  · rw [hst]; exact heap_set_other _ h.sts (block_type h.sts h.cells (by decide))
  · rw [hbits]
    refine ownsRow_of_block h.out fun k hk => ?_
    obtain ⟨cur, hc⟩ := ownsRow_block h.out hk
    exact Below.heap_setCell _ _ _ _ (block_type hc h.cells (by decide))
theorem EncIs.drew {w : World} {b tb sb : Nat} {ov : Value} {e : Enc} (h : EncIs w b tb sb ov e) : EncIs w.drew b tb sb ov e := ⟨h.cells, h.tab, h.sts, ownsRow_of_block h.out (fun _ _ => rfl)⟩
theorem EncIs.drewN {w : World} {b tb sb : Nat} {ov : Value} {e : Enc} (h : EncIs w b tb sb ov e) (n : Nat) : EncIs (w.drewN n) b tb sb ov e := ⟨h.cells, h.tab, h.sts, ownsRow_of_block h.out (fun _ _ => rfl)⟩
theorem EncIs.cellsAt {w : World} {b tb sb : Nat} {ov : Value} {e : Enc} (h : EncIs w b tb sb ov e) : w.cell? ⟨b, 0, none⟩ = some (.pointer (some ⟨tb, 0, none⟩)) ∧ w.cell? ⟨b, 1, none⟩ = some (.slice (some ⟨sb, 0, none⟩) e.st.length e.st.length) ∧
    w.cell? ⟨b, 2, none⟩ = some (.int .i64 e.low) ∧ w.cell? ⟨b, 3, none⟩ = some (.int .i64 e.wid) ∧ w.cell? ⟨b, 4, none⟩ = some (.int .i64 e.outs) ∧ w.cell? ⟨b, 5, none⟩ = some (.bool e.begun) ∧ w.cell? ⟨b, 6, none⟩ = some (.bool e.over) ∧
    w.cell? ⟨b, 7, none⟩ = some ov ∧ w.cell? ⟨b, 8, none⟩ = some (.int .i64 e.bits.length) := by
  refine ⟨?_, ?_, ?_, ?_, ?_, ?_, ?_, ?_, ?_⟩ <;> (rw [cells_of h.cells]; rfl)
def cellNat (w : World) (b i : Nat) : Nat := (intOf ((w.cell? ⟨b, i, none⟩).getD (.int .i64 0))).toNat
theorem cellNat_of {w : World} {b i : Nat} {k : IntKind} {n : Int} (h : w.cell? ⟨b, i, none⟩ = some (.int k n)) : cellNat w b i = n.toNat := by
  unfold cellNat; rw [h]; rfl

/-- The encoder inside put: j bits are outstanding yet. -/
def Enc.puts (e : Enc) (x : Int) (j : Nat) : Enc := { e with begun := true, outs := j, bits := (if e.begun then e.bits ++ [x] else e.bits) ++ List.replicate (e.outs - j) (1 - x) }
theorem Enc.puts_step (e : Enc) (x : Int) (j : Nat) (h : j + 1 ≤ e.outs) : { (e.puts x (j + 1)).bit (1 - x) with outs := j } = e.puts x j := by
  unfold Enc.puts Enc.bit
  have : e.outs - j = (e.outs - (j + 1)) + 1 := by omega
  simp [this, List.replicate_succ', List.append_assoc]
theorem Enc.puts_zero (e : Enc) (x : Int) : e.puts x 0 = e.put x := rfl
theorem Enc.puts_bits (e : Enc) (x : Int) (j : Nat) (hx : x = 0 ∨ x = 1) (h : ∀ y ∈ e.bits, y = 0 ∨ y = 1) : ∀ y ∈ (e.puts x j).bits, y = 0 ∨ y = 1 := by
  intro y hy
  simp only [Enc.puts, List.mem_append, List.mem_replicate] at hy
  rcases hy with hy | ⟨_, rfl⟩
  · split at hy
    · rcases List.mem_append.1 hy with h1 | h1
      · exact h y h1
      · simp at h1; omega
    · exact h y hy
  · omega
theorem Enc.puts_len (e : Enc) (x : Int) (j : Nat) (h : j ≤ e.outs) : (e.puts x j).bits.length + j ≤ e.cost + 1 := by
  unfold Enc.puts Enc.cost
  cases e.begun <;> simp <;> omega

set_option maxRecDepth 100000 in
set_option maxHeartbeats 800000 in
theorem eng_put (b tb sb : Nat) (ov : Value) (e : Enc) (x : Int) (w : World) (he : EncIs w b tb sb ov e) (hx : x = 0 ∨ x = 1) (hb : ∀ y ∈ e.bits, y = 0 ∨ y = 1) (hn : e.cost < 900000000) :
    Calls Tryz.prog 76 #[.pointer (some ⟨b, 0, none⟩), .int .i64 x] w fun r w' => r = .returned (.tuple #[]) ∧ ∃ ov', EncIs w' b tb sb ov' (e.put x) ∧ EncTo w w' b ov ov' := by
  obtain ⟨-, -, -, -, -, c5, -, -, -⟩ := he.cellsAt
  have z5 := free_of he.cells 5
  have Hc := he.cells
  have hlen : e.bits.length ≤ e.cost := by unfold Enc.cost; omega
  have He := Lib.hid he
  have Hb := Lib.hid hb
  have Hn := Lib.hid hn
  have Hl := Lib.hid hlen
  clear he hb hn hlen
  go_enter Tryz.func76, Tryz.ntmps76
  cases hbg : e.begun
  case' false =>
    rw [hbg] at c5
    have h1 : EncIs (w.setCell ⟨b, 5, none⟩ (.bool true)) b tb sb ov (e.puts x e.outs) := He.out.put 5 _ _ rfl (by simp [Enc.puts, hbg]) rfl
    have h2 : EncTo w (w.setCell ⟨b, 5, none⟩ (.bool true)) b ov ov := (EncTo.refl _ _ _).set _ _
    go_wp2
    generalize w.setCell ⟨b, 5, none⟩ (.bool true) = wz at *
  case' true =>
    rw [hbg] at c5
    go_wp2_with fail
    refine (eng_bit b tb sb ov e x w He.out hx Hb.out (by have := Hn.out; have := Hl.out; omega)).mono ?_
    rintro r w1 ⟨rfl, ov1, g1, g2, g3⟩
    obtain ⟨-, -, -, -, -, d5, -, -, -⟩ := g1.cellsAt
    have y5 := free_of g1.cells 5
    have h1 : EncIs (w1.setCell ⟨b, 5, none⟩ (.bool true)) b tb sb ov1 (e.puts x e.outs) := g1.put 5 _ _ rfl (by simp [Enc.puts, Enc.bit, hbg]) rfl
    have h2 : EncTo w (w1.setCell ⟨b, 5, none⟩ (.bool true)) b ov ov1 := EncTo.set ⟨g2, g3⟩ _ _
    clear g1 g2 g3
    go_wp2
    generalize w1.setCell ⟨b, 5, none⟩ (.bool true) = wz at *
    clear d5 y5
  all_goals
    have H1 := Lib.hid h1
    have H2 := Lib.hid h2
    clear h1 h2 Hc c5 z5 He
    go_loopw [] (fun wr => ∃ (j : Nat) (ov2 : Value), j ≤ e.outs ∧ EncIs wr b tb sb ov2 (e.puts x j) ∧ EncTo w wr b ov ov2) (fun wr => cellNat wr b 4)
    case atStart => exact ⟨e.outs, _, Nat.le_refl _, H1.out, H2.out⟩
    case round =>
      obtain ⟨j, ov2, hj, hi, ht⟩ := hrel
      obtain ⟨-, -, -, -, c4, -, -, -, -⟩ := hi.cellsAt
      have c4' : wr.cell? ⟨b, 4, none⟩ = some (.int .i64 (j : Int)) := c4
      have hle : (j : Int) ≤ 900000000 := by have := Hn.out; unfold Enc.cost at this; omega
      have hcn := cellNat_of c4'
      clear c4
      have Hi := Lib.hid hi
      have Ht := Lib.hid ht
      clear hi ht
      by_cases hz : j = 0
      · subst hz
        rw [Enc.puts_zero] at Hi
        go_wp2
        go_end0
        exact ⟨rfl, _, Hi.out, Ht.out⟩
      · obtain ⟨i, rfl⟩ : ∃ i, j = i + 1 := ⟨j - 1, by omega⟩
        go_wp2_with fail
        refine (eng_bit b tb sb ov2 (e.puts x (i + 1)) (1 - x) wr Hi.out (by omega) (Enc.puts_bits e x _ hx Hb.out) (by have := e.puts_len x (i + 1) hj; have := Hn.out; omega)).mono ?_
        rintro r w1 ⟨rfl, ov3, g1, g2, g3⟩
        obtain ⟨-, -, -, -, d4, -, -, -, -⟩ := g1.cellsAt
        have d4' : w1.cell? ⟨b, 4, none⟩ = some (.int .i64 ((i : Int) + 1)) := by rw [d4]; simp [Enc.bit, Enc.puts]
        have y4 := free_of g1.cells 4
        have h1 : EncIs (w1.setCell ⟨b, 4, none⟩ (.int .i64 i)) b tb sb ov3 (e.puts x i) := by
          rw [← Enc.puts_step e x i hj]
          exact g1.put 4 _ _ rfl rfl rfl
        have h2 : EncTo w (w1.setCell ⟨b, 4, none⟩ (.int .i64 i)) b ov ov3 := Ht.out.trans (EncTo.set ⟨g2, g3⟩ _ _)
        have H3 := Lib.hid h1
        have H4 := Lib.hid h2
        clear g1 g2 g3 d4 h1 h2
        go_wp2
        go_roundw
        case rel => exact ⟨i, ov3, by omega, H3.out, H4.out⟩
        case measure =>
          have := cellNat_of (H3.out.cellsAt.2.2.2.2.1)
          simp only [Enc.puts] at this
          omega
end Go.Proofs.YtcppbdlmcbjmeaaGreatDoor

/-
  The walks over package engine's encoder: renorm, may, Bin, Bypass, Terminate.
-/
namespace Go.Proofs.YtcppbdlmcbjmeaaGreatDoor
open Go.RowKit

/-- The width and the low end doubled. -/
def Enc.twice (f : Enc) : Enc := { f with wid := 2 * f.wid, low := 2 * f.low }
theorem EncIs.twice {w : World} {b tb sb : Nat} {ov : Value} {f : Enc} (h : EncIs w b tb sb ov f) :
    EncIs ((w.setCell ⟨b, 3, none⟩ (.int .i64 (f.wid * 2))).setCell ⟨b, 2, none⟩ (.int .i64 (f.low * 2))) b tb sb ov f.twice := by
  have h1 : EncIs (w.setCell ⟨b, 3, none⟩ (.int .i64 (f.wid * 2))) b tb sb ov { f with wid := 2 * f.wid } := h.put 3 _ _ rfl rfl (by simp [encCells, Int.mul_comm])
  exact h1.put 2 _ _ rfl rfl (by simp [encCells, Enc.twice, Int.mul_comm])
theorem Enc.shift_low (f : Enc) (h : f.low < 256) : f.shift = (f.put 0).twice := by unfold Enc.shift Enc.twice; rw [if_pos h]
theorem Enc.shift_high (f : Enc) (h : 512 ≤ f.low) : f.shift = (Enc.put { f with low := f.low - 512 } 1).twice := by unfold Enc.shift Enc.twice; rw [if_neg (by omega), if_pos h]
theorem Enc.shift_mid (f : Enc) (h : ¬ f.low < 256) (h2 : ¬ 512 ≤ f.low) : f.shift = Enc.twice { f with low := f.low - 256, outs := f.outs + 1 } := by unfold Enc.shift Enc.twice; rw [if_neg h, if_neg h2]

set_option maxRecDepth 100000 in
set_option maxHeartbeats 800000 in
theorem eng_renorm (b tb sb : Nat) (ov : Value) (e : Enc) (w : World) (he : EncIs w b tb sb ov e) (hok : e.Ok) (hn : e.cost < 800000000) (hw : 256 ≤ e.wid * 2 ^ 8) :
    Calls Tryz.prog 75 #[.pointer (some ⟨b, 0, none⟩)] w fun r w' => r = .returned (.tuple #[]) ∧ ∃ ov', EncIs w' b tb sb ov' (Enc.norm 8 e) ∧ EncTo w w' b ov ov' := by
  have He := Lib.hid he
  have Hok := Lib.hid hok
  have Hn := Lib.hid hn
  have Hw := Lib.hid hw
  clear he hok hn hw
  go_enter Tryz.func75, Tryz.ntmps75
  go_wp2
  go_loopw [] (fun wr => ∃ (k : Nat) (ov2 : Value) (f : Enc), EncIs wr b tb sb ov2 f ∧ f.Ok ∧ EncTo w wr b ov ov2 ∧ Enc.norm k f = Enc.norm 8 e ∧ 256 ≤ f.wid * 2 ^ k ∧ f.cost + k ≤ e.cost + 8) (fun wr => 1024 - cellNat wr b 3)
  case atStart => exact ⟨8, ov, e, He.out, Hok.out, EncTo.refl _ _ _, rfl, Hw.out, Nat.le_refl _⟩
  case round =>
    obtain ⟨k, ov2, f, hi, ho, ht, hnorm, hk, hcost⟩ := hrel
    obtain ⟨-, -, c2, c3, c4, -, -, -, -⟩ := hi.cellsAt
    have y2 := free_of hi.cells 2
    have y4 := free_of hi.cells 4
    have hl0 := ho.low
    have hl1 := ho.top
    have hw0 := ho.wid0
    have hw1 := ho.wid1
    have ho1 : (f.outs : Int) ≤ 900000000 := by have := Hn.out; unfold Enc.cost at *; omega
    have hcn := cellNat_of c3
    have Hi := Lib.hid hi
    have Ho := Lib.hid ho
    have Ht := Lib.hid ht
    have Hk := Lib.hid hk
    have Hnorm := Lib.hid hnorm
    have Hcost := Lib.hid hcost
    have Hcn := Lib.hid hcn
    clear hi ho ht hnorm hk hcost hcn
    by_cases hwid : f.wid < 256
    · obtain ⟨k, rfl⟩ : ∃ j, k = j + 1 := ⟨k - 1, by
        have := Hk.out
        rcases k with _ | k
        · simp at this; omega
        · omega⟩
      have hs := f.ok_shift Ho.out hwid
      have hnx := Enc.norm_step k f hwid
      have Hs : Hid (f.shift.Ok ∧ Enc.norm k f.shift = Enc.norm 8 e ∧ 256 ≤ f.shift.wid * 2 ^ k ∧ f.shift.cost + k ≤ e.cost + 8 ∧ f.shift.wid = 2 * f.wid) :=
        Lib.hid ⟨hs.1, hnx ▸ Hnorm.out, by rw [hs.2.1, Int.mul_comm 2, Int.mul_assoc, Int.mul_comm 2, ← Int.pow_succ]; exact Hk.out, by have := hs.2.2; have := Hcost.out; omega, hs.2.1⟩
      clear hs hnx Hk Hnorm
      by_cases c1 : f.low < 256
      · have hsh := f.shift_low c1
        go_wp2_with fail
        refine (eng_put b tb sb ov2 f 0 wr Hi.out (.inl rfl) Ho.out.bits (by have := Hn.out; have := Hcost.out; omega)).mono ?_
        rintro r w1 ⟨rfl, ov3, g1, g2⟩
        obtain ⟨-, -, d2, d3, -, -, -, -, -⟩ := g1.cellsAt
        have d2' : w1.cell? ⟨b, 2, none⟩ = some (.int .i64 f.low) := d2
        have d3' : w1.cell? ⟨b, 3, none⟩ = some (.int .i64 f.wid) := d3
        have x2 := free_of g1.cells 2
        have x3 := free_of g1.cells 3
        have h1 : EncIs ((w1.setCell ⟨b, 3, none⟩ (.int .i64 (f.wid * 2))).setCell ⟨b, 2, none⟩ (.int .i64 (f.low * 2))) b tb sb ov3 f.shift := hsh ▸ g1.twice
        have h2 : EncTo w ((w1.setCell ⟨b, 3, none⟩ (.int .i64 (f.wid * 2))).setCell ⟨b, 2, none⟩ (.int .i64 (f.low * 2))) b ov ov3 := Ht.out.trans ((g2.set _ _).set _ _)
        have H1 := Lib.hid h1
        have H2 := Lib.hid h2
        clear d2 d3 g1 g2 h1 h2 hsh
        go_wp2
        go_roundw
        case rel => exact ⟨k, ov3, _, H1.out, Hs.out.1, H2.out, Hs.out.2.1, Hs.out.2.2.1, Hs.out.2.2.2.1⟩
        case measure =>
          have h3 := cellNat_of (H1.out.cellsAt.2.2.2.1)
          have h4 := Hs.out.2.2.2.2
          have h5 := Hcn.out
          omega
      · by_cases c2 : 512 ≤ f.low
        · have hsh := f.shift_high c2
          have h0 : EncIs (wr.setCell ⟨b, 2, none⟩ (.int .i64 (f.low - 512))) b tb sb ov2 { f with low := f.low - 512 } := Hi.out.put 2 _ _ rfl rfl rfl
          have hok2 : Enc.Ok { f with low := f.low - 512 } := f.ok_low _ _ _ Ho.out (by omega) (by omega) hw0 hw1
          have H0 := Lib.hid h0
          have Hok2 := Lib.hid hok2
          clear h0 hok2
          go_wp2_with fail
          refine (eng_put b tb sb ov2 _ 1 _ H0.out (.inr rfl) Hok2.out.bits (by have := Hn.out; have := Hcost.out; unfold Enc.cost at *; dsimp only; omega)).mono ?_
          rintro r w1 ⟨rfl, ov3, g1, g2⟩
          obtain ⟨-, -, d2, d3, -, -, -, -, -⟩ := g1.cellsAt
          have d2' : w1.cell? ⟨b, 2, none⟩ = some (.int .i64 (f.low - 512)) := d2
          have d3' : w1.cell? ⟨b, 3, none⟩ = some (.int .i64 f.wid) := d3
          have x2 := free_of g1.cells 2
          have x3 := free_of g1.cells 3
          have h1 : EncIs ((w1.setCell ⟨b, 3, none⟩ (.int .i64 (f.wid * 2))).setCell ⟨b, 2, none⟩ (.int .i64 ((f.low - 512) * 2))) b tb sb ov3 f.shift := hsh ▸ g1.twice
          have h2 : EncTo w ((w1.setCell ⟨b, 3, none⟩ (.int .i64 (f.wid * 2))).setCell ⟨b, 2, none⟩ (.int .i64 ((f.low - 512) * 2))) b ov ov3 := Ht.out.trans ((((EncTo.refl _ _ _).set _ _).trans g2).set _ _ |>.set _ _)
          have H1 := Lib.hid h1
          have H2 := Lib.hid h2
          clear d2 d3 g1 g2 h1 h2 hsh
          go_wp2
          go_roundw
          case rel => exact ⟨k, ov3, _, H1.out, Hs.out.1, H2.out, Hs.out.2.1, Hs.out.2.2.1, Hs.out.2.2.2.1⟩
          case measure =>
            have h3 := cellNat_of (H1.out.cellsAt.2.2.2.1)
            have h4 := Hs.out.2.2.2.2
            have h5 := Hcn.out
            omega
        · have hsh := f.shift_mid c1 c2
          have h0 : EncIs (wr.setCell ⟨b, 2, none⟩ (.int .i64 (f.low - 256))) b tb sb ov2 { f with low := f.low - 256 } := Hi.out.put 2 _ _ rfl rfl rfl
          have h00 : EncIs ((wr.setCell ⟨b, 2, none⟩ (.int .i64 (f.low - 256))).setCell ⟨b, 4, none⟩ (.int .i64 ((f.outs : Int) + 1))) b tb sb ov2 { f with low := f.low - 256, outs := f.outs + 1 } := h0.put 4 _ _ rfl rfl rfl
          have h1 : EncIs ((((wr.setCell ⟨b, 2, none⟩ (.int .i64 (f.low - 256))).setCell ⟨b, 4, none⟩ (.int .i64 ((f.outs : Int) + 1))).setCell ⟨b, 3, none⟩ (.int .i64 (f.wid * 2))).setCell ⟨b, 2, none⟩ (.int .i64 ((f.low - 256) * 2))) b tb sb ov2 f.shift := hsh ▸ h00.twice
          have h2 := ((((Ht.out.set 2 (.int .i64 (f.low - 256))).set 4 (.int .i64 ((f.outs : Int) + 1))).set 3 (.int .i64 (f.wid * 2))).set 2 (.int .i64 ((f.low - 256) * 2)))
          have x3 := free_of Hi.out.cells 3
          have H1 := Lib.hid h1
          have H2 := Lib.hid h2
          clear h0 h00 h1 h2 hsh
          go_wp2
          go_roundw
          case rel => exact ⟨k, ov2, _, H1.out, Hs.out.1, H2.out, Hs.out.2.1, Hs.out.2.2.1, Hs.out.2.2.2.1⟩
          case measure =>
            have h3 := cellNat_of (H1.out.cellsAt.2.2.2.1)
            have h4 := Hs.out.2.2.2.2
            have h5 := Hcn.out
            omega
    · have hd := Enc.norm_done k f (by omega)
      have H1 : Hid (EncIs wr b tb sb ov2 (Enc.norm 8 e)) := Lib.hid (by rw [← Hnorm.out, hd]; exact Hi.out)
      clear hd
      go_wp2
      go_end0
      exact ⟨rfl, _, H1.out, Ht.out⟩

set_option maxRecDepth 100000 in
theorem eng_may (b tb sb : Nat) (ov : Value) (e : Enc) (x : Int) (w : World) (he : EncIs w b tb sb ov e) :
    Calls Tryz.prog 74 #[.pointer (some ⟨b, 0, none⟩), .int .i64 x] w fun r w' => r = .returned (.int .i64 (codeOf (e.may x))) ∧ w = w' := by
  obtain ⟨-, -, -, -, -, -, c6, -, -⟩ := he.cellsAt
  clear he
  have hm : e.may x = ((x == 0 || x == 1) && !e.over) := rfl
  have Hm := Lib.hid hm
  generalize e.may x = m at *
  generalize e.over = o at *
  clear hm
  go_enter Tryz.func74, Tryz.ntmps74
  by_cases h : x = 0 ∨ x = 1
  · rcases h with rfl | rfl <;> cases o <;> go_wp2 <;> go_ret <;> exact ⟨ret_int (by rw [Hm.out]; rfl), rfl⟩
  · have hf : codeOf m = 501 := by
      rw [Hm.out, show (x == 0) = false by simp; omega, show (x == 1) = false by simp; omega]
      rfl
    have Hf := Lib.hid hf
    clear hf
    go_wp2 <;> go_ret <;> exact ⟨ret_int Hf.out.symm, rfl⟩
end Go.Proofs.YtcppbdlmcbjmeaaGreatDoor

/-
  The walks over package engine's encoder: Bin.
-/
namespace Go.Proofs.YtcppbdlmcbjmeaaGreatDoor
open Go.RowKit

theorem EncIs.state {w : World} {b tb sb : Nat} {ov : Value} {e : Enc} (h : EncIs w b tb sb ov e) (i : Nat) (hi : i < e.st.length) : w.cell? ⟨sb, i, none⟩ = some (.int .i64 (e.st.getD i 0)) := by
  rw [cells_of h.sts]; exact ints_at _ _ hi
theorem EncIs.setState {w : World} {b tb sb : Nat} {ov : Value} {e : Enc} (h : EncIs w b tb sb ov e) (i : Nat) (v : Int) :
    EncIs (w.setCell ⟨sb, i, none⟩ (.int .i64 v)) b tb sb ov { e with st := e.st.set i v } := by
  refine ⟨?_, heap_set_other _ h.tab (block_type h.tab h.sts (by decide)), ?_, ?_⟩
  · have := heap_set_other (i := i) (.int .i64 v) h.cells (block_type h.cells h.sts (by decide))
    simpa using this
  · rw [heap_set_same _ h.sts, ints_setIf]
  · refine ownsRow_of_block h.out fun k hk => ?_
    obtain ⟨cur, hc⟩ := ownsRow_block h.out hk
    exact Below.heap_setCell _ _ _ _ (block_type hc h.sts (by decide))

theorem Enc.narrow_likely (e : Enc) (i : Nat) (x s l : Int) (hs : e.st.getD i 0 = s) (hl : widthOf (e.st.getD i 0) (e.wid / 64 % 4) = l) (h : x = s % 2) :
    e.narrow i x = { e with wid := e.wid - l, st := e.st.set i (nextOf s true) } := by
  unfold Enc.narrow
  dsimp only
  rw [if_pos (by rw [hs]; exact h), hl, hs]
theorem Enc.narrow_other (e : Enc) (i : Nat) (x s l : Int) (hs : e.st.getD i 0 = s) (hl : widthOf (e.st.getD i 0) (e.wid / 64 % 4) = l) (h : ¬ x = s % 2) :
    e.narrow i x = { e with low := e.low + (e.wid - l), wid := l, st := e.st.set i (nextOf s false) } := by
  unfold Enc.narrow
  dsimp only
  rw [if_neg (by rw [hs]; exact h), hl, hs]
/-- The same with the states' block. -/
structure EncGo (w w' : World) (b sb : Nat) (ov ov' : Value) : Prop where
  only : Only (b :: sb :: ov.ownBlock.toList) w w'
  new : ∀ g, ov'.ownBlock = some g → ov.ownBlock = some g ∨ w.heap.size ≤ g
theorem EncTo.go {w w' : World} {b : Nat} {ov ov' : Value} (h : EncTo w w' b ov ov') (sb : Nat) : EncGo w w' b sb ov ov' :=
  ⟨h.only.mono (by intro i hi; simp only [List.mem_cons] at *; rcases hi with hi | hi <;> simp [hi]), h.new⟩
theorem EncGo.refl (w : World) (b sb : Nat) (ov : Value) : EncGo w w b sb ov ov := ⟨Only.refl _ _, fun _ h => .inl h⟩
theorem EncGo.trans {w1 w2 w3 : World} {b sb : Nat} {o1 o2 o3 : Value} (h : EncGo w1 w2 b sb o1 o2) (k : EncGo w2 w3 b sb o2 o3) : EncGo w1 w3 b sb o1 o3 := by
  refine ⟨h.only.trans' k.only ?_, fun g hg => ?_⟩
  · intro i hi
    simp only [List.mem_cons, Option.mem_toList] at hi
    rcases hi with rfl | rfl | hi
    · exact .inl (by simp)
    · exact .inl (by simp)
    · rcases h.new i hi with h1 | h1
      · exact .inl (by simp [h1])
      · exact .inr h1
  · rcases k.new g hg with h1 | h1
    · exact h.new g h1
    · exact .inr (Nat.le_trans h.only.size h1)
theorem EncGo.set {w1 w2 : World} {b sb : Nat} {o1 o2 : Value} (h : EncGo w1 w2 b sb o1 o2) (i : Nat) (u : Value) : EncGo w1 (w2.setCell ⟨b, i, none⟩ u) b sb o1 o2 :=
  ⟨h.only.setCell (.inl (by simp)) _, h.new⟩
theorem EncGo.setS {w1 w2 : World} {b sb : Nat} {o1 o2 : Value} (h : EncGo w1 w2 b sb o1 o2) (i : Nat) (u : Value) : EncGo w1 (w2.setCell ⟨sb, i, none⟩ u) b sb o1 o2 :=
  ⟨h.only.setCell (.inl (by simp)) _, h.new⟩
theorem EncGo.drewN {w1 w2 : World} {b sb : Nat} {o1 o2 : Value} (h : EncGo w1 w2 b sb o1 o2) (n : Nat) : EncGo w1 (w2.drewN n) b sb o1 o2 := ⟨h.only.drewN n, h.new⟩
theorem EncGo.drew {w1 w2 : World} {b sb : Nat} {o1 o2 : Value} (h : EncGo w1 w2 b sb o1 o2) : EncGo w1 w2.drew b sb o1 o2 := ⟨h.only.drew, h.new⟩

set_option maxRecDepth 100000 in
set_option maxHeartbeats 1600000 in
theorem eng_bin (b tb sb : Nat) (ov : Value) (e : Enc) (c x : Int) (w : World) (he : EncIs w b tb sb ov e) (hg : e.Good) (hn : e.cost < 700000000) :
    Calls Tryz.prog 229 #[.pointer (some ⟨b, 0, none⟩), .int .i64 c, .int .i64 x] w fun r w' => r = .returned (.int .i64 (codeOf (e.canBin c x))) ∧ ∃ ov', EncIs w' b tb sb ov' (e.bin c x) ∧ EncGo w w' b sb ov ov' := by
  have hmay := eng_may b tb sb ov e x w he
  by_cases hm : e.may x = true
  · rw [hm] at hmay
    by_cases hc : 0 ≤ c ∧ c < e.st.length
    · have hcan : e.canBin c x = true := by unfold Enc.canBin; rw [hm]; simpa using hc
      have hbin : e.bin c x = Enc.norm 8 (e.narrow c.toNat x) := by unfold Enc.bin; rw [if_pos hcan]
      rw [hcan, hbin]
      obtain ⟨hc0, hc1⟩ := hc
      obtain ⟨i, rfl⟩ := Int.eq_ofNat_of_zero_le hc0
      rw [Int.toNat_natCast]
      have hx := (e.may_bit x hm).1
      have hnar := e.ok_narrow i x hg.ok hg.wide
      have hs := hg.ok.st i
      have hsp := state_parts (e.st.getD i 0) hs.1 hs.2
      obtain ⟨k, r, hkr, hk, hr⟩ := hsp
      have hw0 := hg.wide
      have hw1 := hg.ok.wid1
      have hlo0 := hg.ok.low
      have hlo1 := hg.ok.top
      obtain ⟨q, hq, hq4⟩ : ∃ q : Nat, e.wid / 64 % 4 = q ∧ q < 4 := ⟨(e.wid / 64 % 4).toNat, by omega, by omega⟩
      obtain ⟨less, hless⟩ : ∃ l, l = widthL.getD (k * 4 + q) 0 := ⟨_, rfl⟩
      have hwo : widthOf (e.st.getD i 0) (e.wid / 64 % 4) = less := by rw [hless, hq, hkr]; unfold widthOf; congr 1; omega
      have hlr := widthL_range (k * 4 + q) (by omega)
      rw [← hless] at hlr
      have hcl : i < e.st.length := by omega
      have c9 := he.state i hcl
      have ct := tab_w he.tab (k * 4 + q) (by omega)
      rw [← hless, ← Nat.add_assoc] at ct
      obtain ⟨c0, c1, c2, c3, -, -, -, -, -⟩ := he.cellsAt
      have z2 := free_of he.cells 2
      have z3 := free_of he.cells 3
      have zs := free_of he.sts i
      rw [hkr] at c9
      obtain ⟨L, hL⟩ : ∃ L, L = e.st.length := ⟨_, rfl⟩
      obtain ⟨lo, hlo⟩ : ∃ l, l = e.low := ⟨_, rfl⟩
      obtain ⟨wi, hwi⟩ : ∃ l, l = e.wid := ⟨_, rfl⟩
      rw [← hL] at c1 hcl hc1
      rw [← hlo] at c2 hlo0 hlo1
      rw [← hwi] at c3 hw0 hw1 hlo1 hq
      have hd1 : Int.tdiv (2 * (k : Int) + r) 2 = k := by rw [Int.tdiv_eq_ediv_of_nonneg (by omega)]; omega
      have hd2 : Int.tmod (2 * (k : Int) + r) 2 = r := by rw [Int.tmod_eq_emod_of_nonneg (by omega)]; omega
      have hd3 : Int.tmod (Int.tdiv wi 64) 4 = q := by rw [Int.tdiv_eq_ediv_of_nonneg (by omega), Int.tmod_eq_emod_of_nonneg (by omega)]; exact hq
      have hsb : sb ≠ b := block_type he.sts he.cells (by decide)
      have htb : tb ≠ b := block_type he.tab he.cells (by decide)
      have hts : tb ≠ sb := block_type he.tab he.sts (by decide)
      obtain ⟨hlr0, hlr1⟩ := hlr
      have He := Lib.hid he
      have Hnar := Lib.hid hnar
      have Hn := Lib.hid hn
      have HL := Lib.hid hL
      have Hlo := Lib.hid hlo
      have Hwi := Lib.hid hwi
      have Hkr := Lib.hid hkr
      have Hwo := Lib.hid hwo
      have Hhs := Lib.hid hs
      have Hmay := Lib.hid hmay
      clear he hnar hn hL hlo hwi hkr hwo hs hless hbin hcan hm hg hmay
      go_enter Tryz.func229, Tryz.ntmps229
      go_wp2_with fail
      refine Hmay.out.mono ?_
      rintro r0 w0 ⟨rfl, rfl⟩
      rw [show codeOf true = 0 from rfl]
      by_cases hxr : x = (r : Int)
      · have hb1 : (x == (r : Int)) = true := by simp [hxr]
        go_wp2
        go_quiet (fail)
        go_wp2
        have h1 : EncIs ((w.drewN nq).setCell ⟨b, 3, none⟩ (.int .i64 (wi - less))) b tb sb ov { e with wid := e.wid - less } := (He.out.drewN nq).put 3 _ _ rfl rfl (by rw [Hwi.out]; rfl)
        have h2 : EncGo w ((w.drewN nq).setCell ⟨b, 3, none⟩ (.int .i64 (wi - less))) b sb ov ov := ((EncGo.refl _ _ _ _).drewN nq).set _ _
        generalize (w.drewN nq).setCell ⟨b, 3, none⟩ (.int .i64 (wi - less)) = wq at *
        have htq := h1.tab
        obtain ⟨e0, e1, -, -, -, -, -, -, -⟩ := h1.cellsAt
        have e9 := h1.state i (by rw [← HL.out]; exact hcl)
        have ez := free_of h1.sts i
        dsimp only at e9 e1
        rw [Hkr.out] at e9
        rw [← HL.out] at e1
        have H1 := Lib.hid h1
        have H2 := Lib.hid h2
        clear h1 h2 c0 c1 c2 c3 c9 ct z2 z3 zs
        go_region_held3 (fun w' => w'.cell? ⟨b, 0, none⟩ = some (.pointer (some ⟨tb, 0, none⟩)) ∧ w'.cell? ⟨b, 1, none⟩ = some (.slice (some ⟨sb, 0, none⟩) L L)) (first | exact ⟨e0, e1⟩ | go_keep | assumption)
          (first | (go_at_call 239; refine (eng_next tb (2 * (k : Int) + r) true wq.drew htq (by omega) (by omega)).mono ?_; rintro r2 w2 ⟨rfl, rfl⟩))
        have h3 : EncIs (wq.setCell ⟨sb, i, none⟩ (.int .i64 (nextOf (2 * (k : Int) + r) true))).drew b tb sb ov (e.narrow i x) := by
          rw [e.narrow_likely i x (2 * (k : Int) + r) less Hkr.out Hwo.out (by omega)]
          exact (H1.out.setState i _).drew
        have h4 : EncGo w (wq.setCell ⟨sb, i, none⟩ (.int .i64 (nextOf (2 * (k : Int) + r) true))).drew b sb ov ov := (H2.out.setS _ _).drew
        generalize (wq.setCell ⟨sb, i, none⟩ (.int .i64 (nextOf (2 * (k : Int) + r) true))).drew = wn at *
        have H3 := Lib.hid h3
        have H4 := Lib.hid h4
        clear h3 h4 e0 e1 e9 ez htq H1 H2
        subst hxr
        go_wp2_with fail
        refine (eng_renorm b tb sb ov _ wn H3.out Hnar.out.1 (by rw [Hnar.out.2.1]; have := Hn.out; omega) Hnar.out.2.2).mono ?_
        rintro r3 w3 ⟨rfl, ov3, g1, g2⟩
        have H5 := Lib.hid g1
        have H6 := Lib.hid (H4.out.trans (g2.go sb))
        clear g1 g2
        go_wp2
        go_ret
        exact ⟨rfl, ov3, H5.out, H6.out⟩
      · have hb1 : (x == (r : Int)) = false := by simp [hxr]
        go_wp2
        go_quiet (fail)
        go_wp2
        go_region
        go_wp2
        have h1 : EncIs (((((w.drewN nq).setCell ⟨b, 3, none⟩ (.int .i64 (wi - less))).setCell ⟨b, 2, none⟩ (.int .i64 (lo + (wi - less)))).setCell ⟨b, 3, none⟩ (.int .i64 less)).drew) b tb sb ov { e with low := e.low + (e.wid - less), wid := less } := by
          have g1 : EncIs ((w.drewN nq).setCell ⟨b, 3, none⟩ (.int .i64 (wi - less))) b tb sb ov { e with wid := e.wid - less } := (He.out.drewN nq).put 3 _ _ rfl rfl (by rw [Hwi.out]; rfl)
          have g2 : EncIs (((w.drewN nq).setCell ⟨b, 3, none⟩ (.int .i64 (wi - less))).setCell ⟨b, 2, none⟩ (.int .i64 (lo + (wi - less)))) b tb sb ov { e with low := e.low + (e.wid - less), wid := e.wid - less } := g1.put 2 _ _ rfl rfl (by rw [Hwi.out, Hlo.out]; rfl)
          exact (g2.put 3 (.int .i64 less) { e with low := e.low + (e.wid - less), wid := less } rfl rfl rfl).drew
        have h2 : EncGo w (((((w.drewN nq).setCell ⟨b, 3, none⟩ (.int .i64 (wi - less))).setCell ⟨b, 2, none⟩ (.int .i64 (lo + (wi - less)))).setCell ⟨b, 3, none⟩ (.int .i64 less)).drew) b sb ov ov :=
          (((((EncGo.refl _ _ _ _).drewN nq).set _ _).set _ _).set _ _).drew
        generalize (((((w.drewN nq).setCell ⟨b, 3, none⟩ (.int .i64 (wi - less))).setCell ⟨b, 2, none⟩ (.int .i64 (lo + (wi - less)))).setCell ⟨b, 3, none⟩ (.int .i64 less)).drew) = wq at *
        have htq := h1.tab
        obtain ⟨e0, e1, -, -, -, -, -, -, -⟩ := h1.cellsAt
        have e9 := h1.state i (by show i < e.st.length; rw [← HL.out]; exact hcl)
        have ez := free_of h1.sts i
        dsimp only at e9 e1
        rw [Hkr.out] at e9
        rw [← HL.out] at e1
        have H1 := Lib.hid h1
        have H2 := Lib.hid h2
        clear h1 h2 c0 c1 c2 c3 c9 ct z2 z3 zs
        go_region_held3 (fun w' => w'.cell? ⟨b, 0, none⟩ = some (.pointer (some ⟨tb, 0, none⟩)) ∧ w'.cell? ⟨b, 1, none⟩ = some (.slice (some ⟨sb, 0, none⟩) L L)) (first | exact ⟨e0, e1⟩ | go_keep | assumption)
          (first | (go_at_call 239; refine (eng_next tb (2 * (k : Int) + r) false wq.drew htq (by omega) (by omega)).mono ?_; rintro r2 w2 ⟨rfl, rfl⟩))
        have h3 : EncIs (wq.setCell ⟨sb, i, none⟩ (.int .i64 (nextOf (2 * (k : Int) + r) false))).drew b tb sb ov (e.narrow i x) := by
          rw [e.narrow_other i x (2 * (k : Int) + r) less Hkr.out Hwo.out (by omega)]
          exact (H1.out.setState i _).drew
        have h4 : EncGo w (wq.setCell ⟨sb, i, none⟩ (.int .i64 (nextOf (2 * (k : Int) + r) false))).drew b sb ov ov := (H2.out.setS _ _).drew
        generalize (wq.setCell ⟨sb, i, none⟩ (.int .i64 (nextOf (2 * (k : Int) + r) false))).drew = wn at *
        have H3 := Lib.hid h3
        have H4 := Lib.hid h4
        clear h3 h4 e0 e1 e9 ez htq H1 H2
        go_wp2_with fail
        refine (eng_renorm b tb sb ov _ wn H3.out Hnar.out.1 (by rw [Hnar.out.2.1]; have := Hn.out; omega) Hnar.out.2.2).mono ?_
        rintro r3 w3 ⟨rfl, ov3, g1, g2⟩
        have H5 := Lib.hid g1
        have H6 := Lib.hid (H4.out.trans (g2.go sb))
        clear g1 g2
        go_wp2
        go_ret
        exact ⟨rfl, ov3, H5.out, H6.out⟩
    · have hcan : e.canBin c x = false := by unfold Enc.canBin; rw [hm]; simpa using fun h => Int.not_lt.1 fun h2 => hc ⟨h, h2⟩
      have hbin : e.bin c x = e := by unfold Enc.bin; rw [hcan]; rfl
      rw [hcan, hbin]
      obtain ⟨-, c1, -, -, -, -, -, -, -⟩ := he.cellsAt
      obtain ⟨L, hL⟩ : ∃ L, L = e.st.length := ⟨_, rfl⟩
      rw [← hL] at c1 hc
      have He := Lib.hid he
      have Hmay := Lib.hid hmay
      clear he hcan hbin hL hmay hn hg hm
      go_enter Tryz.func229, Tryz.ntmps229
      go_wp2_with fail
      refine Hmay.out.mono ?_
      rintro r0 w0 ⟨rfl, rfl⟩
      rw [show codeOf true = 0 from rfl]
      by_cases h0 : c < 0
      · go_wp2 <;> go_ret <;> exact ⟨rfl, ov, He.out, EncGo.refl _ _ _ _⟩
      · have h1 : (L : Int) ≤ c := by omega
        go_wp2 <;> go_ret <;> exact ⟨rfl, ov, He.out, EncGo.refl _ _ _ _⟩
  · have hcan : e.canBin c x = false := by unfold Enc.canBin; simp [hm]
    have hbin : e.bin c x = e := by unfold Enc.bin; rw [hcan]; rfl
    rw [hcan, hbin]
    rw [show e.may x = false by simpa using hm] at hmay
    have He := Lib.hid he
    have Hmay := Lib.hid hmay
    clear he hcan hbin hmay hn hg hm
    go_enter Tryz.func229, Tryz.ntmps229
    go_wp2_with fail
    refine Hmay.out.mono ?_
    rintro r0 w0 ⟨rfl, rfl⟩
    rw [show codeOf false = 501 from rfl]
    go_wp2
    go_ret
    exact ⟨rfl, ov, He.out, EncGo.refl _ _ _ _⟩
end Go.Proofs.YtcppbdlmcbjmeaaGreatDoor

namespace Go.Proofs.YtcppbdlmcbjmeaaGreatDoor
open Go.RowKit

/-- The n low bits of x, the highest first. -/
def bitsN (x : Nat) : Nat → List Int
  | 0 => []
  | n + 1 => ((x / 2 ^ n % 2 : Nat) : Int) :: bitsN x n
theorem bitsN_length (x : Nat) : ∀ n, (bitsN x n).length = n
  | 0 => rfl
  | n + 1 => by simp [bitsN, bitsN_length x n]
theorem bitsN_bit (x : Nat) : ∀ n, ∀ y ∈ bitsN x n, y = 0 ∨ y = 1
  | 0, y, h => by simp [bitsN] at h
  | n + 1, y, h => by
    rcases List.mem_cons.1 h with rfl | h
    · omega
    · exact bitsN_bit x n y h

/-- The writer in block b, its bytes in the slice ov, has written the bits bs. -/
structure WrIs (w : World) (b : Nat) (ov : Value) (bs : List Int) : Prop where
  cells : ∃ c : Int, w.heap[b]? = some (.cells #[ov, .int .i64 bs.length, .int .i64 c] 100 (0, 0))
  out : w.ownsRow 0 5 1 ov (packed bs).length (bytesOf (packed bs))
  bit : ∀ y ∈ bs, y = 0 ∨ y = 1
/-- The writer while a bit is laid: its last byte has room. -/
structure WrMid (w : World) (b g q r cap : Nat) (bs : List Int) : Prop where
  len : bs.length = 8 * q + r
  low : r < 8
  cells : ∃ c : Int, w.heap[b]? = some (.cells #[.slice (some ⟨g, 0, none⟩) (q + 1) cap, .int .i64 (8 * (q : Int) + r), .int .i64 c] 100 (0, 0))
  out : w.ownsRow 0 5 1 (.slice (some ⟨g, 0, none⟩) (q + 1) cap) (q + 1) (bytesOf (roomed bs))
  bit : ∀ y ∈ bs, y = 0 ∨ y = 1
theorem WrMid.done {w : World} {b g q r cap : Nat} {bs : List Int} (h : WrMid w b g q r cap bs) (x y : Int) (hy : byteAt bs q = y) (hx : x = 0 ∨ x = 1) :
    WrIs ((w.setCell ⟨g, q, none⟩ (.int .u8 (y + x * place r))).drew.setCell ⟨b, 1, none⟩ (.int .i64 (8 * (q : Int) + r + 1))) b (.slice (some ⟨g, 0, none⟩) (q + 1) cap) (bs ++ [x]) := by
  have hlow := h.low
  obtain ⟨c, hc⟩ := h.cells
  obtain ⟨cur, hg⟩ := ownsRow_block h.out rfl
  have n1 : b ≠ g := block_type hc hg (by decide)
  have hq : bs.length / 8 = q := by have := h.len; omega
  have hp : packed (bs ++ [x]) = (roomed bs).set q (y + x * place r) := by
    rw [packed_snoc, hq, hy, h.len, place_mod]
  have hl : (packed (bs ++ [x])).length = q + 1 := by rw [hp, List.length_set, roomed_length, hq]
  refine ⟨⟨c, ?_⟩, ?_, ?_⟩
  · rw [heap_set_same (w := (w.setCell ⟨g, q, none⟩ (.int .u8 (y + x * place r))).drew) _ (heap_set_other _ hc n1)]
    have hb : ((bs ++ [x]).length : Int) = 8 * (q : Int) + r + 1 := by simp [h.len]
    rw [hb]
    rfl
  · rw [hl, hp, ← bytesOf_set]
    have h1 := ownsRow_set (.int .u8 (y + x * place r)) h.out (i := q) (by omega)
    refine ownsRow_of_block (w := w.setCell ⟨g, q, none⟩ (.int .u8 (y + x * place r))) h1 ?_
    intro k hk
    simp [Value.ownBlock] at hk
    subst hk
    exact Below.heap_setCell _ _ _ _ (fun e => n1 e.symm)
  · intro z hz
    rcases List.mem_append.1 hz with hz | hz
    · exact h.bit z hz
    · rw [List.mem_singleton.1 hz]; exact hx

set_option maxRecDepth 100000 in
theorem bits_add (b : Nat) (c : Int) (w : World) (hc : w.cell? ⟨b, 2, none⟩ = some (.int .i64 c)) (hz : w.frozen? ⟨b, 2, none⟩ = false) :
    Calls Tryz.prog 97 #[.pointer (some ⟨b, 2, none⟩), .int .i64 1] w fun r w' => (∃ s, r = .returned (.int .i64 s)) ∧ ∃ s, w' = w.setCell ⟨b, 2, none⟩ (.int .i64 s) := by
  obtain ⟨s, hs⟩ : ∃ s, s = IntKind.i64.wrap (c + 1) := ⟨_, rfl⟩
  have hadd := run_call_add (P := Tryz.prog) Tryz.func132 (by kernel_rfl) (by kernel_rfl) (by kernel_rfl) .i64 (by kernel_rfl) (y := 1) (s := s) hc hz (by simp [go_sem, hs])
  clear hs
  go_enter Tryz.func97, Tryz.ntmps97
  go_wp2
  go_ret
  exact ⟨⟨_, rfl⟩, _, rfl⟩
theorem WrIs.only {w w' : World} {b : Nat} {ov : Value} {bs : List Int} {S : List Nat} (h : WrIs w b ov bs) (ho : Only S w w') (h1 : b ∉ S) (h2 : ∀ g, ov.ownBlock = some g → g ∉ S) : WrIs w' b ov bs := by
  obtain ⟨c, hc⟩ := h.cells
  refine ⟨⟨c, ho.heap hc h1⟩, ownsRow_of_block h.out fun g hg => ?_, h.bit⟩
  obtain ⟨cur, hk⟩ := ownsRow_block h.out hg
  exact ho.block g (lt_of_block hk) (h2 g hg)
theorem WrIs.drewN {w : World} {b : Nat} {ov : Value} {bs : List Int} (h : WrIs w b ov bs) (n : Nat) : WrIs (w.drewN n) b ov bs := ⟨h.cells, ownsRow_of_block h.out (fun _ _ => rfl), h.bit⟩
theorem WrIs.cast {w : World} {b : Nat} {ov : Value} {bs cs : List Int} (h : WrIs w b ov bs) (e : bs = cs) : WrIs w b ov cs := e ▸ h
theorem WrIs.count {w : World} {b : Nat} {ov : Value} {bs : List Int} (h : WrIs w b ov bs) (s : Int) : WrIs (w.setCell ⟨b, 2, none⟩ (.int .i64 s)) b ov bs := by
  obtain ⟨c, hc⟩ := h.cells
  refine ⟨⟨s, by rw [heap_set_same _ hc]; rfl⟩, ownsRow_of_block h.out fun g hg => ?_, h.bit⟩
  obtain ⟨cur, hk⟩ := ownsRow_block h.out hg
  exact Below.heap_setCell _ _ _ _ (block_type hk hc (by decide))

/-- A bit of a number, as the walk spells it. -/
theorem u64_bit (x k : Nat) (hx : x < 4294967296) : bits .and .u64 ((x : Int) / 2 ^ k) 1 = ((x / 2 ^ k % 2 : Nat) : Int) := by
  have e : ((x : Int) / 2 ^ k) = ((x / 2 ^ k : Nat) : Int) := by simp
  rw [e]
  generalize hy : x / 2 ^ k = y
  have hlt : y < 4294967296 := by rw [← hy]; exact Nat.lt_of_le_of_lt (Nat.div_le_self _ _) hx
  unfold bits
  have e1 : BitVec.ofInt 64 (y : Int) = BitVec.ofNat 64 y := by simp
  have e2 : BitVec.ofInt 64 (1 : Int) = BitVec.ofNat 64 1 := by simp
  show IntKind.u64.wrap ((BitVec.ofInt 64 (y : Int) &&& BitVec.ofInt 64 (1 : Int)).toNat : Int) = _
  rw [e1, e2, BitVec.toNat_and, BitVec.toNat_ofNat, BitVec.toNat_ofNat, Nat.mod_eq_of_lt (show y < 2 ^ 64 by omega), Nat.mod_eq_of_lt (show 1 < 2 ^ 64 by decide), Nat.and_one_is_mod, IntKind.wrap_u64]
  omega

set_option maxRecDepth 100000 in
set_option maxHeartbeats 1600000 in
theorem bits_put (b : Nat) (ov : Value) (bs : List Int) (x n : Nat) (w : World) (h : WrIs w b ov bs) (hx : x < 4294967296) (hn : n ≤ 64) (hlen : bs.length < 1000000000) :
    Calls Tryz.prog 59 #[.pointer (some ⟨b, 0, none⟩), .int .u64 x, .int .i64 n] w fun r w' => r = .returned (.tuple #[]) ∧ ∃ ov', WrIs w' b ov' (bs ++ bitsN x n) ∧ EncTo w w' b ov ov' := by
  obtain ⟨c, hc⟩ := h.cells
  have c2 : w.cell? ⟨b, 2, none⟩ = some (.int .i64 c) := by rw [cells_of hc]; rfl
  have z2 := free_of hc 2
  have H := Lib.hid h
  have Hx := Lib.hid hx
  have Hl := Lib.hid hlen
  clear h hc hx hlen
  go_enter Tryz.func59, Tryz.ntmps59
  go_wp2_with fail
  refine (bits_add b c w c2 z2).mono ?_
  rintro r w1 ⟨⟨s1, rfl⟩, s, rfl⟩
  have H1 : Hid (WrIs (w.setCell ⟨b, 2, none⟩ (.int .i64 s)) b ov bs) := Lib.hid (H.out.count s)
  have T1 : Hid (EncTo w (w.setCell ⟨b, 2, none⟩ (.int .i64 s)) b ov ov) := Lib.hid ((EncTo.refl _ _ _).set _ _)
  clear c2 z2
  go_wp2
  generalize w.setCell ⟨b, 2, none⟩ (.int .i64 s) = wz at *
  go_loopw [6] (fun q wr => ∃ (m : Nat) (dn : List Int) (ov2 : Value), q = .int .i64 ((m : Int) - 1) ∧ m ≤ n ∧ Hid (dn ++ bitsN x m = bs ++ bitsN x n) ∧ dn.length + m = bs.length + n ∧ WrIs wr b ov2 dn ∧ EncTo w wr b ov ov2) (fun q _ => (intOf q + 1).toNat)
  case atStart => exact ⟨n, bs, ov, rfl, Nat.le_refl _, Lib.hid rfl, rfl, H1.out, T1.out⟩
  case round =>
    obtain ⟨m, dn, ov2, rfl, hm, hd, hl, hi, ht⟩ := hrel
    clear H H1 T1
    by_cases hz : m = 0
    · subst hz
      have e : dn = bs ++ bitsN x n := by have := hd.out; simpa [bitsN] using this
      have Hi := Lib.hid (hi.cast e)
      have Ht := Lib.hid ht
      clear hi ht hd e
      go_wp2
      go_end0
      exact ⟨rfl, _, Hi.out, Ht.out⟩
    · obtain ⟨k, rfl⟩ : ∃ k, m = k + 1 := ⟨m - 1, by omega⟩
      have hk : (((k + 1 : Nat) : Int) - 1) = (k : Int) := by omega
      rw [hk]
      obtain ⟨v, hv, hv2⟩ : ∃ v : Nat, v = x / 2 ^ k % 2 ∧ v < 2 := ⟨_, rfl, Nat.mod_lt _ (by decide)⟩
      have hbit := u64_bit x k Hx.out
      rw [← hv] at hbit
      have hd2 : Hid ((dn ++ [(v : Int)]) ++ bitsN x k = bs ++ bitsN x n) := Lib.hid (by rw [← hd.out, hv, List.append_assoc]; rfl)
      obtain ⟨q, r, hqr, hr⟩ : ∃ q r : Nat, dn.length = 8 * q + r ∧ r < 8 := ⟨dn.length / 8, dn.length % 8, by omega, by omega⟩
      obtain ⟨c3, hc3⟩ := hi.cells
      have hown := hi.out
      rw [packed_length, hqr] at hown
      have c1 : wr.cell? ⟨b, 1, none⟩ = some (.int .i64 (8 * (q : Int) + r)) := by rw [cells_of hc3, hqr]; simp
      have c2 : wr.cell? ⟨b, 0, none⟩ = some ov2 := by rw [cells_of hc3]; rfl
      have z1 := free_of hc3 0
      have z2 := free_of hc3 1
      have hqb : q < 1000000000 := by have := Hl.out; omega
      have Hi := Lib.hid hi
      have Ht := Lib.hid ht
      have Hqr := Lib.hid hqr
      have Hv := Lib.hid hv
      have Hll := Lib.hid hl
      have Hc3 := Lib.hid hc3
      clear hi ht hqr hv hd hl hc3 hz hk
      by_cases h8 : r = 0
      · subst h8
        rw [show (8 * q + 0 + 7) / 8 = q by omega] at hown
        go_wp2_with (at_builtin; refine wpList_push rfl _ _ rfl elt8 0 _ _ _ _ hown rfl rfl (by simp) rfl (by omega) (by decide) (by omega) ?_)
        intro g cap w2 hp
        have hob : ov2.ownBlock ≠ some b := fun h3 => by
          obtain ⟨cur, hc⟩ := ownsRow_block hown h3
          exact block_type Hc3.out hc (by decide) rfl
        have hcb := (hp.2.1.block b (lt_of_block Hc3.out) (fun e => hob e.symm)).trans Hc3.out
        have hlen : dn.length = 8 * q + 0 := Hqr.out
        have hro : bytesOf (packed dn) ++ [Value.int .u8 0] = bytesOf (roomed dn) := by
          rw [roomed_new _ (by omega)]
          simp [bytesOf]
        have ho2 := hp.1
        rw [hro] at ho2
        obtain ⟨g2, hg2, hgf⟩ : ∃ g2, Value.slice (some ⟨g, 0, none⟩) (q + 1) cap = .slice (some ⟨g2, 0, none⟩) (q + 1) cap ∧ (ov2.ownBlock = some g2 ∨ wr.heap.size ≤ g2) := by
          obtain ⟨g2, cap2, h1, h2⟩ := hp.2.2
          simp only [Value.slice.injEq, Option.some.injEq, Addr.mk.injEq] at h1
          obtain ⟨⟨rfl, -⟩, -, -⟩ := h1
          exact ⟨_, rfl, h2⟩
        simp only [Value.slice.injEq, Option.some.injEq, Addr.mk.injEq] at hg2
        obtain ⟨⟨rfl, -⟩, -, -⟩ := hg2
        obtain ⟨cur, hgb⟩ := ownsRow_block ho2 rfl
        have hg : g ≠ b := block_type hgb hcb (by decide)
        have hy : byteAt dn q = 0 := by
          unfold byteAt
          rw [getD_beyond, getD_beyond, getD_beyond, getD_beyond, getD_beyond, getD_beyond, getD_beyond, getD_beyond] <;> omega
        have c4 : w2.cell? ⟨g, q, none⟩ = some (.int .u8 0) := by
          rw [ho2.cellAt (g := g) (j := q) (by omega), ← hro]
          rw [List.getElem?_append_right (by simp [bytesOf, packed_length]; omega)]
          simp [bytesOf, packed_length, show q - (dn.length + 7) / 8 = 0 by omega]
        have z3 := free_of hgb q
        have d1 : w2.cell? ⟨b, 1, none⟩ = some (.int .i64 (8 * (q : Int) + (0 : Nat))) := by rw [cells_of hcb, hlen]; simp
        have d2 : w2.cell? ⟨b, 0, none⟩ = some ov2 := by rw [cells_of hcb]; rfl
        have y1 := free_of hcb 0
        have y2 := free_of hcb 1
        have hmid : WrMid (w2.setCell ⟨b, 0, none⟩ (.slice (some ⟨g, 0, none⟩) (q + 1) cap)) b g q 0 cap dn := by
          refine ⟨hlen, by omega, ⟨c3, ?_⟩, ?_, Hi.out.bit⟩
          · rw [heap_set_same _ hcb, hlen]
            simp
          · exact ownsRow_of_block ho2 (fun k hk => by
              simp [Value.ownBlock] at hk
              subst hk
              exact Below.heap_setCell _ _ _ _ hg)
        have hon : Only (b :: ov2.ownBlock.toList) wr w2 := (Only.refl _ _).grown hp.2.1 (fun k hk => .inl (by simp [hk]))
        have hgs : g ∈ b :: ov2.ownBlock.toList ∨ wr.heap.size ≤ g := hgf.elim (fun h => .inl (by simp [h])) .inr
        have Hmid := Lib.hid hmid
        have Hon := Lib.hid hon
        have Hy := Lib.hid hy
        have Hgf := Lib.hid hgf
        have Hgs := Lib.hid hgs
        clear hcb hp ho2 hro hob hmid hon hy hgb hgf hgs hown c2 z1 z2 c1 hlen
        go_wp2
        go_region
        rw [show bits .or .u8 0 ((v : Int) * 128) = 0 + (v : Int) * place 0 by obtain rfl | rfl : v = 0 ∨ v = 1 := by omega
                                                                               all_goals decide]
        go_wp2
        have h1 := Hmid.out.done v 0 Hy.out (by omega)
        rw [Int.zero_add, show (8 * (q : Int) + ((0 : Nat) : Int) + 1) = 8 * q + 1 by simp] at h1
        refine ⟨⟨k, dn ++ [(v : Int)], _, ?_, by omega, hd2, by have := Hll.out; rw [List.length_append, List.length_singleton]; omega, h1, ?_⟩, ?_⟩
        · rfl
        · refine Ht.out.trans ⟨((((Hon.out.setCell (.inl (by simp)) _).setCell Hgs.out _).drew).setCell (.inl (by simp)) _), fun g' hg' => ?_⟩
          simp [Value.ownBlock] at hg'
          subst hg'
          exact Hgf.out
        · simp [intOf]
          try omega
      · rw [show (8 * q + r + 7) / 8 = q + 1 by omega] at hown
        obtain ⟨g, cap, cur, rfl, _, hgb, hcell⟩ := owned_shape hown (by omega)
        have c4 : wr.cell? ⟨g, q, none⟩ = some (.int .u8 (byteAt dn q)) := by
          rw [hcell _ (by omega)]
          simp [bytesOf, packed, show q < (dn.length + 7) / 8 by have := Hqr.out; omega]
        have z3 := free_of hgb q
        have hy := byteAt_range dn Hi.out.bit q
        generalize hyy : byteAt dn q = y at *
        obtain ⟨hy0, hy1⟩ := hy
        have Hyy := Lib.hid hyy
        have hg : g ≠ b := block_type hgb Hc3.out (by decide)
        clear hcell hyy hgb
        go_wp2
        go_region
        have Hm := byteAt_mod dn
        rw [show dn.length / 8 = q by have := Hqr.out; omega, Hyy.out, Hqr.out, place_mod] at Hm
        rw [u8_lay r y v hr hy0 hy1 Hm (by omega)]
        go_wp2
        have hmid : WrMid wr b g q r cap dn := by
          have hl := Hqr.out
          refine ⟨hl, hr, ⟨c3, ?_⟩, ?_, Hi.out.bit⟩
          · rw [Hc3.out, hl]
            simp
          · rw [roomed_old _ (by omega)]
            exact hown
        refine ⟨⟨k, dn ++ [(v : Int)], _, ?_, by omega, hd2, by have := Hll.out; rw [List.length_append, List.length_singleton]; omega, hmid.done v y Hyy.out (by omega), ?_⟩, ?_⟩
        · rfl
        · exact Ht.out.trans ⟨((((Only.refl _ _).setCell (.inl (by simp [Value.ownBlock])) _).drew).setCell (.inl (by simp)) _), fun g' hg' => .inl hg'⟩
        · simp [intOf]
          try omega
end Go.Proofs.YtcppbdlmcbjmeaaGreatDoor
