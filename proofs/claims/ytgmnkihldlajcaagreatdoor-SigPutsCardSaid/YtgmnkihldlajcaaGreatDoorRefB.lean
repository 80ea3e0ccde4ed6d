/-
  The walks over the document's own encoder (package zoetroperef5): put, norm.
-/
import Derived.Test.YtgmnkihldlajcaaGreatDoorEngD
import Derived.Test.YtgmnkihldlajcaaGreatDoorRefA
namespace Go.Proofs.YtgmnkihldlajcaaGreatDoor
open Go.RowKit

/-- Its cells. -/
def refCells (tb sb L : Nat) (bv : Value) (low wid outs : Int) (begun over : Bool) : Array Value :=
  #[.slice (some ⟨sb, 0, none⟩) L L, bv, .int .i64 low, .int .i64 wid, .int .i64 outs, .bool (!begun), .bool over, .slice (some ⟨tb, 0, none⟩) 256 256]
structure RefIs (w : World) (b tb sb : Nat) (bv : Value) (e : Enc) : Prop where
  cells : w.heap[b]? = some (.cells (refCells tb sb e.st.length bv e.low e.wid e.outs e.begun e.over) 41 (0, 0))
  tab : w.heap[tb]? = some (.cells (ints widthL) 3 (0, 0))
  sts : w.heap[sb]? = some (.cells (ints e.st) 3 (0, 0))
  apart : tb ≠ sb
  out : w.ownsRow 0 5 1 bv e.bits.length (bytesOf e.bits)
theorem RefIs.put {w : World} {b tb sb : Nat} {bv : Value} {e : Enc} (h : RefIs w b tb sb bv e) (i : Nat) (u : Value) (e' : Enc) (hst : e'.st = e.st) (hbits : e'.bits = e.bits)
    (hc : (refCells tb sb e.st.length bv e.low e.wid e.outs e.begun e.over).setIfInBounds i u = refCells tb sb e.st.length bv e'.low e'.wid e'.outs e'.begun e'.over) :
    RefIs (w.setCell ⟨b, i, none⟩ u) b tb sb bv e' := by
  refine ⟨?_, heap_set_other _ h.tab (block_type h.tab h.cells (by decide)), ?_, h.apart, ?_⟩
  · rw [heap_set_same _ h.cells, hc, hst]
  · rw [hst]; exact heap_set_other _ h.sts (block_type h.sts h.cells (by decide))
  · rw [hbits]
    refine ownsRow_of_block h.out fun k hk => ?_
    obtain ⟨cur, hc⟩ := ownsRow_block h.out hk
    exact Below.heap_setCell _ _ _ _ (block_type hc h.cells (by decide))
theorem RefIs.drew {w : World} {b tb sb : Nat} {bv : Value} {e : Enc} (h : RefIs w b tb sb bv e) : RefIs w.drew b tb sb bv e := ⟨h.cells, h.tab, h.sts, h.apart, ownsRow_of_block h.out (fun _ _ => rfl)⟩
theorem RefIs.drewN {w : World} {b tb sb : Nat} {bv : Value} {e : Enc} (h : RefIs w b tb sb bv e) (n : Nat) : RefIs (w.drewN n) b tb sb bv e := ⟨h.cells, h.tab, h.sts, h.apart, ownsRow_of_block h.out (fun _ _ => rfl)⟩
theorem RefIs.cellsAt {w : World} {b tb sb : Nat} {bv : Value} {e : Enc} (h : RefIs w b tb sb bv e) : w.cell? ⟨b, 0, none⟩ = some (.slice (some ⟨sb, 0, none⟩) e.st.length e.st.length) ∧ w.cell? ⟨b, 1, none⟩ = some bv ∧
    w.cell? ⟨b, 2, none⟩ = some (.int .i64 e.low) ∧ w.cell? ⟨b, 3, none⟩ = some (.int .i64 e.wid) ∧ w.cell? ⟨b, 4, none⟩ = some (.int .i64 e.outs) ∧ w.cell? ⟨b, 5, none⟩ = some (.bool (!e.begun)) ∧ w.cell? ⟨b, 6, none⟩ = some (.bool e.over) ∧
    w.cell? ⟨b, 7, none⟩ = some (.slice (some ⟨tb, 0, none⟩) 256 256) := by
  refine ⟨?_, ?_, ?_, ?_, ?_, ?_, ?_, ?_⟩ <;> (rw [cells_of h.cells]; rfl)
theorem RefIs.state {w : World} {b tb sb : Nat} {bv : Value} {e : Enc} (h : RefIs w b tb sb bv e) (i : Nat) (hi : i < e.st.length) : w.cell? ⟨sb, i, none⟩ = some (.int .i64 (e.st.getD i 0)) := by
  rw [cells_of h.sts]; exact ints_at _ _ hi
theorem RefIs.setState {w : World} {b tb sb : Nat} {bv : Value} {e : Enc} (h : RefIs w b tb sb bv e) (i : Nat) (v : Int) :
    RefIs (w.setCell ⟨sb, i, none⟩ (.int .i64 v)) b tb sb bv { e with st := e.st.set i v } := by
  refine ⟨?_, heap_set_other _ h.tab h.apart, ?_, h.apart, ?_⟩
  · have := heap_set_other (i := i) (.int .i64 v) h.cells (block_type h.cells h.sts (by decide))
    simpa using this
  · rw [heap_set_same _ h.sts, ints_setIf]
  · refine ownsRow_of_block h.out fun k hk => ?_
    obtain ⟨cur, hc⟩ := ownsRow_block h.out hk
    exact Below.heap_setCell _ _ _ _ (block_type hc h.sts (by decide))
/-- One bit more behind the bits. -/
theorem RefIs.pushed {w w2 : World} {b tb sb g cap : Nat} {bv : Value} {e : Enc} (x : Int) (h : RefIs w b tb sb bv e)
    (hp : Pushed w 0 5 1 bv (e.bits.length + 1) (bytesOf e.bits ++ [.int .u8 x]) (.slice (some ⟨g, 0, none⟩) (e.bits.length + 1) cap) w2) :
    w2.frozen? ⟨b, 1, none⟩ = false ∧ w2.cell? ⟨b, 1, none⟩ = some bv ∧ RefIs (w2.setCell ⟨b, 1, none⟩ (.slice (some ⟨g, 0, none⟩) (e.bits.length + 1) cap)) b tb sb (.slice (some ⟨g, 0, none⟩) (e.bits.length + 1) cap) (e.bit x) ∧
      EncTo w (w2.setCell ⟨b, 1, none⟩ (.slice (some ⟨g, 0, none⟩) (e.bits.length + 1) cap)) b bv (.slice (some ⟨g, 0, none⟩) (e.bits.length + 1) cap) := by
  have hk : ∀ k, k < w.heap.size → bv.ownBlock ≠ some k → w2.heap[k]? = w.heap[k]? := fun k hk hr => hp.2.1.block k hk (fun e => hr e.symm)
  have hob : ∀ k cs t, w.heap[k]? = some (.cells cs t (0, 0)) → t ≠ 5 → bv.ownBlock ≠ some k := fun k cs t h1 h2 h3 => by
    obtain ⟨cur, hc⟩ := ownsRow_block h.out h3
    exact block_type h1 hc h2 rfl
  have hcb := (hk b (lt_of_block h.cells) (hob b _ _ h.cells (by decide))).trans h.cells
  have htb := (hk tb (lt_of_block h.tab) (hob tb _ _ h.tab (by decide))).trans h.tab
  have hsb := (hk sb (lt_of_block h.sts) (hob sb _ _ h.sts (by decide))).trans h.sts
  have hbits : bytesOf e.bits ++ [Value.int .u8 x] = bytesOf (e.bit x).bits := by simp [bytesOf, Enc.bit]
  have ho2 := hp.1
  rw [hbits] at ho2
  obtain ⟨cur, hgb⟩ := ownsRow_block ho2 rfl
  have hg : g ≠ b := block_type hgb hcb (by decide)
  have hnew : bv.ownBlock = some g ∨ w.heap.size ≤ g := by
    obtain ⟨g2, cap2, h1, h2⟩ := hp.2.2
    simp only [Value.slice.injEq, Option.some.injEq, Addr.mk.injEq] at h1
    obtain ⟨⟨rfl, -⟩, -, -⟩ := h1
    exact h2
  refine ⟨free_of hcb 1, by rw [cells_of hcb]; rfl, ⟨?_, heap_set_other _ htb (block_type htb hcb (by decide)), heap_set_other _ hsb (block_type hsb hcb (by decide)), h.apart, ?_⟩, ?_⟩
  · rw [heap_set_same _ hcb]
    rfl
  · have hl : (e.bit x).bits.length = e.bits.length + 1 := by simp [Enc.bit]
    rw [hl]
    exact ownsRow_of_block ho2 (fun k hk => by
      simp [Value.ownBlock] at hk
      subst hk
      exact Below.heap_setCell _ _ _ _ hg)
  · refine ⟨((Only.refl _ _).grown hp.2.1 (fun k hk => .inl (by simp [hk]))).setCell (.inl (by simp)) _, fun g' hg' => ?_⟩
    simp [Value.ownBlock] at hg'
    subst hg'
    exact hnew

set_option maxRecDepth 100000 in
set_option maxHeartbeats 1600000 in
theorem ref_put (b tb sb : Nat) (bv : Value) (e : Enc) (x : Int) (w : World) (he : RefIs w b tb sb bv e) (hx : x = 0 ∨ x = 1) (hn : e.cost < 900000000) :
    Calls Tryz.prog 42 #[.pointer (some ⟨b, 0, none⟩), .int .i64 x] w fun r w' => r = .returned (.tuple #[]) ∧ ∃ bv', RefIs w' b tb sb bv' (e.put x) ∧ EncTo w w' b bv bv' := by
  obtain ⟨-, c1, -, -, -, c5, -, -⟩ := he.cellsAt
  have z5 := free_of he.cells 5
  have Hc := he.cells
  have hlen : e.bits.length ≤ e.cost := by unfold Enc.cost; omega
  have hown := he.out
  have hx8 : IntKind.u8.wrap x = x := by rcases hx with rfl | rfl <;> decide
  have hx9 : IntKind.u8.wrap (1 - x) = 1 - x := by rcases hx with rfl | rfl <;> decide
  have hm8 : x % 256 = x := by omega
  have hm9 : (1 - x) % 256 = 1 - x := by omega
  have He := Lib.hid he
  have Hn := Lib.hid hn
  have Hl := Lib.hid hlen
  clear he hn hlen
  go_enter Tryz.func42, Tryz.ntmps42
  cases hbg : e.begun
  case' false =>
    rw [hbg] at c5
    have h1 : RefIs (w.setCell ⟨b, 5, none⟩ (.bool false)) b tb sb bv (e.puts x e.outs) := He.out.put 5 _ _ rfl (by simp [Enc.puts, hbg]) rfl
    have h2 : EncTo w (w.setCell ⟨b, 5, none⟩ (.bool false)) b bv bv := (EncTo.refl _ _ _).set _ _
    clear hown c1
    go_wp2
    generalize w.setCell ⟨b, 5, none⟩ (.bool false) = wz at *
  case' true =>
    rw [hbg] at c5
    go_wp2_with (at_builtin; refine wpList_push rfl _ _ rfl elt8 0 _ _ _ _ hown rfl rfl (by simp) rfl (by omega) (by decide) (by have := Hn.out; have := Hl.out; omega) ?_)
    intro g cap w2 hp
    try rw [hm8] at hp
    obtain ⟨g1, g2, h1, h2⟩ := He.out.pushed x hp
    have h1' : RefIs (w2.setCell ⟨b, 1, none⟩ (.slice (some ⟨g, 0, none⟩) (e.bits.length + 1) cap)) b tb sb (.slice (some ⟨g, 0, none⟩) (e.bits.length + 1) cap) (e.puts x e.outs) := by
      have : e.puts x e.outs = e.bit x := by unfold Enc.puts Enc.bit; simp [hbg]
      rw [this]; exact h1
    clear h1 hp hown c1
    have h1 := h1'
    clear h1'
    go_wp2
    generalize w2.setCell ⟨b, 1, none⟩ (.slice (some ⟨g, 0, none⟩) (e.bits.length + 1) cap) = wz at *
    clear g1 g2
  all_goals
    have H1 := Lib.hid h1
    have H2 := Lib.hid h2
    clear h1 h2 Hc c5 z5 He
    go_loopw [] (fun wr => ∃ (j : Nat) (ov2 : Value), j ≤ e.outs ∧ RefIs wr b tb sb ov2 (e.puts x j) ∧ EncTo w wr b bv ov2) (fun wr => cellNat wr b 4)
    case atStart => exact ⟨e.outs, _, Nat.le_refl _, H1.out, H2.out⟩
    case round =>
      obtain ⟨j, ov2, hj, hi, ht⟩ := hrel
      obtain ⟨-, d1, -, -, d4, -, -, -⟩ := hi.cellsAt
      have d4' : wr.cell? ⟨b, 4, none⟩ = some (.int .i64 (j : Int)) := d4
      have hle : (j : Int) ≤ 900000000 := by have := Hn.out; unfold Enc.cost at this; omega
      have hcn := cellNat_of d4'
      have hown2 := hi.out
      clear d4
      have Hi := Lib.hid hi
      have Ht := Lib.hid ht
      clear hi ht
      by_cases hz : j = 0
      · subst hz
        rw [Enc.puts_zero] at Hi
        clear hown2 d1
        go_wp2
        go_end0
        exact ⟨rfl, _, Hi.out, Ht.out⟩
      · obtain ⟨i, rfl⟩ : ∃ i, j = i + 1 := ⟨j - 1, by omega⟩
        have hlp := e.puts_len x (i + 1) hj
        have Hlp := Lib.hid hlp
        clear hlp
        go_wp2_with (at_builtin; refine wpList_push rfl _ _ rfl elt8 0 _ _ _ _ hown2 rfl rfl (by simp) rfl (by omega) (by decide) (by have := Hn.out; have := Hlp.out; omega) ?_)
        intro g cap w2 hp
        try rw [hm9] at hp
        obtain ⟨g1, g2, h1, h2⟩ := Hi.out.pushed (1 - x) hp
        have y4 : (w2.setCell ⟨b, 1, none⟩ (.slice (some ⟨g, 0, none⟩) ((e.puts x (i + 1)).bits.length + 1) cap)).frozen? ⟨b, 4, none⟩ = false := free_of h1.cells 4
        obtain ⟨-, -, -, -, d5, -, -, -⟩ := h1.cellsAt
        have d5' : (w2.setCell ⟨b, 1, none⟩ (.slice (some ⟨g, 0, none⟩) ((e.puts x (i + 1)).bits.length + 1) cap)).cell? ⟨b, 4, none⟩ = some (.int .i64 ((i : Int) + 1)) := by rw [d5]; simp [Enc.bit, Enc.puts]
        have h3 : RefIs ((w2.setCell ⟨b, 1, none⟩ (.slice (some ⟨g, 0, none⟩) ((e.puts x (i + 1)).bits.length + 1) cap)).setCell ⟨b, 4, none⟩ (.int .i64 i)) b tb sb (.slice (some ⟨g, 0, none⟩) ((e.puts x (i + 1)).bits.length + 1) cap) (e.puts x i) := by
          rw [← Enc.puts_step e x i hj]
          exact h1.put 4 _ _ rfl rfl rfl
        have h4 : EncTo w ((w2.setCell ⟨b, 1, none⟩ (.slice (some ⟨g, 0, none⟩) ((e.puts x (i + 1)).bits.length + 1) cap)).setCell ⟨b, 4, none⟩ (.int .i64 i)) b bv (.slice (some ⟨g, 0, none⟩) ((e.puts x (i + 1)).bits.length + 1) cap) := Ht.out.trans (h2.set _ _)
        have H3 := Lib.hid h3
        have H4 := Lib.hid h4
        clear hp h1 h2 d5 h3 h4 hown2 d1 d4'
        go_wp2
        go_roundw
        case rel => exact ⟨i, _, by omega, H3.out, H4.out⟩
        case measure =>
          have h5 : _ = ((i : Nat) : Int).toNat := cellNat_of (H3.out.cellsAt.2.2.2.2.1)
          omega

theorem RefIs.twice {w : World} {b tb sb : Nat} {bv : Value} {f : Enc} (h : RefIs w b tb sb bv f) :
    RefIs ((w.setCell ⟨b, 3, none⟩ (.int .i64 (2 * f.wid))).setCell ⟨b, 2, none⟩ (.int .i64 (2 * f.low))) b tb sb bv f.twice := by
  have h1 : RefIs (w.setCell ⟨b, 3, none⟩ (.int .i64 (2 * f.wid))) b tb sb bv { f with wid := 2 * f.wid } := h.put 3 _ _ rfl rfl rfl
  exact h1.put 2 _ _ rfl rfl rfl

set_option maxRecDepth 100000 in
set_option maxHeartbeats 1600000 in
theorem ref_norm (b tb sb : Nat) (ov : Value) (e : Enc) (w : World) (he : RefIs w b tb sb ov e) (hok : e.Ok) (hn : e.cost < 800000000) (hw : 256 ≤ e.wid * 2 ^ 8) :
    Calls Tryz.prog 65 #[.pointer (some ⟨b, 0, none⟩)] w fun r w' => r = .returned (.tuple #[]) ∧ ∃ ov', RefIs w' b tb sb ov' (Enc.norm 8 e) ∧ EncTo w w' b ov ov' := by
  have He := Lib.hid he
  have Hok := Lib.hid hok
  have Hn := Lib.hid hn
  have Hw := Lib.hid hw
  clear he hok hn hw
  go_enter Tryz.func65, Tryz.ntmps65
  go_wp2
  go_loopw [] (fun wr => ∃ (k : Nat) (ov2 : Value) (f : Enc), RefIs wr b tb sb ov2 f ∧ f.Ok ∧ EncTo w wr b ov ov2 ∧ Enc.norm k f = Enc.norm 8 e ∧ 256 ≤ f.wid * 2 ^ k ∧ f.cost + k ≤ e.cost + 8) (fun wr => 1024 - cellNat wr b 3)
  case atStart => exact ⟨8, ov, e, He.out, Hok.out, EncTo.refl _ _ _, rfl, Hw.out, Nat.le_refl _⟩
  case round =>
    obtain ⟨k, ov2, f, hi, ho, ht, hnorm, hk, hcost⟩ := hrel
    obtain ⟨-, -, c2, c3, c4, -, -, -⟩ := hi.cellsAt
    have y2 := free_of hi.cells 2
    have y4 := free_of hi.cells 4
    have hl0 := ho.low
    have hl1 := ho.top
    have hw0 := ho.wid0
    have hw1 := ho.wid1
    have ho1 : (f.outs : Int) ≤ 900000000 := by have := Hn.out; unfold Enc.cost at *; omega
    have hcn := cellNat_of c3
    have Hi := Lib.hid hi
    have Ho := Lib.hid ho
    have Ht := Lib.hid ht
    have Hk := Lib.hid hk
    have Hnorm := Lib.hid hnorm
    have Hcost := Lib.hid hcost
    have Hcn := Lib.hid hcn
    clear hi ho ht hnorm hk hcost hcn
    by_cases hwid : f.wid < 256
    · obtain ⟨k, rfl⟩ : ∃ j, k = j + 1 := ⟨k - 1, by
        have := Hk.out
        rcases k with _ | k
        · simp at this; omega
        · omega⟩
      have hs := f.ok_shift Ho.out hwid
      have hnx := Enc.norm_step k f hwid
      have Hs : Hid (f.shift.Ok ∧ Enc.norm k f.shift = Enc.norm 8 e ∧ 256 ≤ f.shift.wid * 2 ^ k ∧ f.shift.cost + k ≤ e.cost + 8 ∧ f.shift.wid = 2 * f.wid) :=
        Lib.hid ⟨hs.1, hnx ▸ Hnorm.out, by rw [hs.2.1, Int.mul_comm 2, Int.mul_assoc, Int.mul_comm 2, ← Int.pow_succ]; exact Hk.out, by have := hs.2.2; have := Hcost.out; omega, hs.2.1⟩
      clear hs hnx Hk Hnorm
      by_cases c1 : f.low < 256
      · have hsh := f.shift_low c1
        go_wp2_with fail
        refine (ref_put b tb sb ov2 f 0 wr Hi.out (.inl rfl) (by have := Hn.out; have := Hcost.out; omega)).mono ?_
        rintro r w1 ⟨rfl, ov3, g1, g2⟩
        obtain ⟨-, -, d2, d3, -, -, -, -⟩ := g1.cellsAt
        have d2' : w1.cell? ⟨b, 2, none⟩ = some (.int .i64 f.low) := d2
        have d3' : w1.cell? ⟨b, 3, none⟩ = some (.int .i64 f.wid) := d3
        have x2 := free_of g1.cells 2
        have x3 := free_of g1.cells 3
        have h1 : RefIs ((w1.setCell ⟨b, 3, none⟩ (.int .i64 (2 * f.wid))).setCell ⟨b, 2, none⟩ (.int .i64 (2 * f.low))) b tb sb ov3 f.shift := hsh ▸ g1.twice
        have h2 : EncTo w ((w1.setCell ⟨b, 3, none⟩ (.int .i64 (2 * f.wid))).setCell ⟨b, 2, none⟩ (.int .i64 (2 * f.low))) b ov ov3 := Ht.out.trans ((g2.set _ _).set _ _)
        have H1 := Lib.hid h1
        have H2 := Lib.hid h2
        clear d2 d3 g1 g2 h1 h2 hsh
        go_wp2
        go_roundw
        case rel => exact ⟨k, ov3, _, H1.out, Hs.out.1, H2.out, Hs.out.2.1, Hs.out.2.2.1, Hs.out.2.2.2.1⟩
        case measure =>
          have h3 := cellNat_of (H1.out.cellsAt.2.2.2.1)
          have h4 := Hs.out.2.2.2.2
          have h5 := Hcn.out
          omega
      · by_cases c2 : 512 ≤ f.low
        · have hsh := f.shift_high c2
          have h0 : RefIs (wr.setCell ⟨b, 2, none⟩ (.int .i64 (f.low - 512))) b tb sb ov2 { f with low := f.low - 512 } := Hi.out.put 2 _ _ rfl rfl rfl
          have hok2 : Enc.Ok { f with low := f.low - 512 } := f.ok_low _ _ _ Ho.out (by omega) (by omega) hw0 hw1
          have H0 := Lib.hid h0
          clear h0 hok2
          go_wp2_with fail
          refine (ref_put b tb sb ov2 _ 1 _ H0.out (.inr rfl) (by have := Hn.out; have := Hcost.out; unfold Enc.cost at *; dsimp only; omega)).mono ?_
          rintro r w1 ⟨rfl, ov3, g1, g2⟩
          obtain ⟨-, -, d2, d3, -, -, -, -⟩ := g1.cellsAt
          have d2' : w1.cell? ⟨b, 2, none⟩ = some (.int .i64 (f.low - 512)) := d2
          have d3' : w1.cell? ⟨b, 3, none⟩ = some (.int .i64 f.wid) := d3
          have x2 := free_of g1.cells 2
          have x3 := free_of g1.cells 3
          have h1 : RefIs ((w1.setCell ⟨b, 3, none⟩ (.int .i64 (2 * f.wid))).setCell ⟨b, 2, none⟩ (.int .i64 (2 * (f.low - 512)))) b tb sb ov3 f.shift := hsh ▸ g1.twice
          have h2 : EncTo w ((w1.setCell ⟨b, 3, none⟩ (.int .i64 (2 * f.wid))).setCell ⟨b, 2, none⟩ (.int .i64 (2 * (f.low - 512)))) b ov ov3 := Ht.out.trans ((((EncTo.refl _ _ _).set _ _).trans g2).set _ _ |>.set _ _)
          have H1 := Lib.hid h1
          have H2 := Lib.hid h2
          clear d2 d3 g1 g2 h1 h2 hsh
          go_wp2
          go_roundw
          case rel => exact ⟨k, ov3, _, H1.out, Hs.out.1, H2.out, Hs.out.2.1, Hs.out.2.2.1, Hs.out.2.2.2.1⟩
          case measure =>
            have h3 := cellNat_of (H1.out.cellsAt.2.2.2.1)
            have h4 := Hs.out.2.2.2.2
            have h5 := Hcn.out
            omega
        · have hsh := f.shift_mid c1 c2
          have h0 : RefIs (wr.setCell ⟨b, 2, none⟩ (.int .i64 (f.low - 256))) b tb sb ov2 { f with low := f.low - 256 } := Hi.out.put 2 _ _ rfl rfl rfl
          have h00 : RefIs ((wr.setCell ⟨b, 2, none⟩ (.int .i64 (f.low - 256))).setCell ⟨b, 4, none⟩ (.int .i64 ((f.outs : Int) + 1))) b tb sb ov2 { f with low := f.low - 256, outs := f.outs + 1 } := h0.put 4 _ _ rfl rfl rfl
          have h1 : RefIs ((((wr.setCell ⟨b, 2, none⟩ (.int .i64 (f.low - 256))).setCell ⟨b, 4, none⟩ (.int .i64 ((f.outs : Int) + 1))).setCell ⟨b, 3, none⟩ (.int .i64 (2 * f.wid))).setCell ⟨b, 2, none⟩ (.int .i64 (2 * (f.low - 256)))) b tb sb ov2 f.shift := hsh ▸ h00.twice
          have h2 := ((((Ht.out.set 2 (.int .i64 (f.low - 256))).set 4 (.int .i64 ((f.outs : Int) + 1))).set 3 (.int .i64 (2 * f.wid))).set 2 (.int .i64 (2 * (f.low - 256))))
          have x3 := free_of Hi.out.cells 3
          have H1 := Lib.hid h1
          have H2 := Lib.hid h2
          clear h0 h00 h1 h2 hsh
          go_wp2
          go_roundw
          case rel => exact ⟨k, ov2, _, H1.out, Hs.out.1, H2.out, Hs.out.2.1, Hs.out.2.2.1, Hs.out.2.2.2.1⟩
          case measure =>
            have h3 := cellNat_of (H1.out.cellsAt.2.2.2.1)
            have h4 := Hs.out.2.2.2.2
            have h5 := Hcn.out
            omega
    · have hd := Enc.norm_done k f (by omega)
      have H1 : Hid (RefIs wr b tb sb ov2 (Enc.norm 8 e)) := Lib.hid (by rw [← Hnorm.out, hd]; exact Hi.out)
      clear hd
      go_wp2
      go_end0
      exact ⟨rfl, _, H1.out, Ht.out⟩
end Go.Proofs.YtgmnkihldlajcaaGreatDoor

/-
  The walks over the document's own encoder: States, NewEncoder, Bin.
-/
namespace Go.Proofs.YtgmnkihldlajcaaGreatDoor
open Go.RowKit

theorem RefIs.only {w w' : World} {b tb sb : Nat} {bv : Value} {e : Enc} {S : List Nat} (h : RefIs w b tb sb bv e) (ho : Only S w w') (h1 : b ∉ S) (h2 : tb ∉ S) (h3 : sb ∉ S) (h4 : ∀ g, bv.ownBlock = some g → g ∉ S) : RefIs w' b tb sb bv e := by
  refine ⟨ho.heap h.cells h1, ho.heap h.tab h2, ho.heap h.sts h3, h.apart, ownsRow_of_block h.out fun g hg => ?_⟩
  obtain ⟨cur, hc⟩ := ownsRow_block h.out hg
  exact ho.block g (lt_of_block hc) (h4 g hg)

set_option maxRecDepth 100000 in
set_option maxHeartbeats 800000 in
theorem ref_begin (v : Value) (xs : List Int) (w : World) (hv : IntSlice w v xs) (hl : xs.length ≤ 17592186044414) :
    Calls Tryz.prog 20 #[v] w fun e w' => ∃ g, e = .returned (.slice (some ⟨g, 0, none⟩) xs.length xs.length) ∧ w.heap.size ≤ g ∧ w'.heap[g]? = some (.cells (ints (beginOf xs)) 3 (0, 0)) ∧ Only [] w w' := by
  obtain ⟨ao, cap, rfl, ha⟩ := hv
  go_enter Tryz.func20, Tryz.ntmps20
  go_wp2_with (at_make; refine wpList_make1B rfl _ _ rfl elt64 rfl xs.length rfl rfl rfl rfl (by omega) (by omega) ?_)
  intro w1 hb ho hsz
  rw [ints_replicate] at hb
  have Hb := Lib.hid hb
  have Ho := Lib.hid ho
  clear hb ho hsz
  go_wp2
  go_loopw [4] (fun i wr => ∃ k : Nat, k ≤ xs.length ∧ i = .int .i64 k ∧ wr.heap[w.heap.size]? = some (.cells (ints (fillTo (fun i => (beginOf xs).getD i 0) xs.length k)) 3 (0, 0)) ∧ Only [] w wr) (fun i _ => xs.length - (intOf i).toNat)
  case atStart => exact ⟨0, Nat.zero_le _, rfl, by rw [fillTo_zero]; exact Hb.out, Ho.out⟩
  case round =>
    obtain ⟨k, hk, rfl, hblk, hon⟩ := hrel
    by_cases hlt : k < xs.length
    · rcases ha with ha | ⟨ga, oa, rfl, ha⟩
      · simp [ha] at hlt
      have c1 := hon.cell (ha k hlt) (by simp)
      have c2 : wr.cell? ⟨w.heap.size, k, none⟩ = some (.int .i64 ((fillTo (fun i => (beginOf xs).getD i 0) xs.length k).getD k 0)) := by
        rw [cells_of hblk]; exact ints_at _ _ (by rw [fillTo_length]; exact hlt)
      have z := free_of hblk k
      have hbe := beginOf_at xs k hlt
      generalize hx : xs.getD k 0 = x at *
      have Hblk := Lib.hid hblk
      have Hon := Lib.hid hon
      have Hbe := Lib.hid hbe
      clear hblk hon hbe ha hx
      by_cases hin : 0 ≤ x ∧ x < 128
      · obtain ⟨hx0, hx1⟩ := hin
        go_wp2
        go_roundw
        case rel =>
          refine ⟨k + 1, by omega, by go_num, ?_, Hon.out.setCell (.inr (by simp)) _⟩
          rw [heap_set_same _ Hblk.out, ints_setIf, fillTo_set]
          rw [Hbe.out, if_pos ⟨hx0, hx1⟩]
        case measure => simp [intOf] <;> omega
      · have hfill : fillTo (fun i => (beginOf xs).getD i 0) xs.length k = fillTo (fun i => (beginOf xs).getD i 0) xs.length (k + 1) := by
          unfold fillTo
          apply List.map_congr_left
          intro c hc
          by_cases h1 : c = k
          · have h2 := Hbe.out
            rw [if_neg hin] at h2
            rw [h1, if_neg (by omega), if_pos (by omega)]
            exact h2.symm
          · have h2 : (c < k + 1) ↔ (c < k) := by omega
            simp [h2]
        rw [hfill] at Hblk
        have Hblk2 := Lib.hid Hblk.out
        clear hfill
        go_wp2 <;> go_roundw
        case rel => exact ⟨k + 1, by omega, by go_num, Hblk2.out, Hon.out⟩
        case measure => simp [intOf] <;> omega
        case rel => exact ⟨k + 1, by omega, by go_num, Hblk2.out, Hon.out⟩
        case measure => simp [intOf] <;> omega
    · obtain rfl : k = xs.length := by omega
      have hb2 := hblk
      rw [fillTo_full, ← beginOf_length xs, fill_list] at hb2
      have Hb2 := Lib.hid hb2
      clear hb2 hblk
      go_wp2
      go_ret
      exact ⟨_, rfl, Nat.le_refl _, Hb2.out, hon⟩

set_option maxRecDepth 100000 in
theorem ref_new (v : Value) (xs : List Int) (w : World) (hv : IntSlice w v xs) (hl : xs.length ≤ 17592186044414) :
    Calls Tryz.prog 6 #[v] w fun r w' => ∃ b tb sb, r = .returned (.pointer (some ⟨b, 0, none⟩)) ∧ RefIs w' b tb sb (.slice none 0 0) (Enc.new xs) ∧ Only [] w w' ∧ w.heap.size ≤ b ∧ w.heap.size ≤ tb ∧ w.heap.size ≤ sb := by
  have Hv := Lib.hid hv
  go_enter Tryz.func6, Tryz.ntmps6
  go_wp2_with fail
  refine (ref_begin v xs w hv hl).mono ?_
  rintro r1 w1 ⟨sb, rfl, hsb, hst, ho⟩
  have Hst := Lib.hid hst
  have Ho := Lib.hid ho
  have hsl := lt_of_block hst
  clear hst ho hv
  go_wp2_with fail
  refine (ref_widths w1).mono ?_
  rintro r2 w2 ⟨rfl, rfl⟩
  have htb := heap_alloc_at w1 (.cells (ints widthL) 3)
  have hst2 := heap_alloc_lt (.cells (ints widthL) 3) Hst.out
  have ho2 := Ho.out.alloc (.cells (ints widthL) 3)
  obtain ⟨tb, htbe⟩ : ∃ t, t = w1.heap.size := ⟨_, rfl⟩
  rw [← htbe] at htb ⊢
  have htl : w.heap.size ≤ tb := by rw [htbe]; exact Ho.out.size
  have hne : tb ≠ sb := by omega
  generalize w1.alloc (.cells (ints widthL) 3) = w2 at *
  have Htb := Lib.hid htb
  have Hst2 := Lib.hid hst2
  have Ho2 := Lib.hid ho2
  clear htb hst2 ho2 htbe
  go_wp2
  go_ret
  refine ⟨w2.heap.size, tb, sb, rfl, ⟨?_, heap_alloc_lt _ Htb.out, heap_alloc_lt _ Hst2.out, hne, World.ownsRow_nil _ _ _ _⟩, Ho2.out.alloc _, Ho2.out.size, htl, hsb⟩
  rw [heap_alloc_at]
  have hbl : (Enc.new xs).st.length = xs.length := beginOf_length xs
  rw [hbl]
  rfl

set_option maxRecDepth 100000 in
set_option maxHeartbeats 1600000 in
theorem ref_bin (b tb sb : Nat) (ov : Value) (e : Enc) (c x : Int) (w : World) (he : RefIs w b tb sb ov e) (hg : e.Good) (hn : e.cost < 700000000) :
    Calls Tryz.prog 41 #[.pointer (some ⟨b, 0, none⟩), .int .i64 c, .int .i64 x] w fun r w' => r = .returned (.int .i64 (codeOf (e.canBin c x))) ∧ ∃ ov', RefIs w' b tb sb ov' (e.bin c x) ∧ EncGo w w' b sb ov ov' := by
  by_cases hcan : e.canBin c x = true
  · have hm : e.may x = true ∧ 0 ≤ c ∧ c < e.st.length := by
      unfold Enc.canBin at hcan
      rw [Bool.and_eq_true] at hcan
      exact ⟨hcan.1, by simpa using hcan.2⟩
    obtain ⟨hm, hc0, hc1⟩ := hm
    have hbin : e.bin c x = Enc.norm 8 (e.narrow c.toNat x) := by unfold Enc.bin; rw [if_pos hcan]
    obtain ⟨i, rfl⟩ := Int.eq_ofNat_of_zero_le hc0
    rw [Int.toNat_natCast] at hbin
    obtain ⟨hx, hov⟩ := e.may_bit x hm
    have hnar := e.ok_narrow i x hg.ok hg.wide
    have hs := hg.ok.st i
    obtain ⟨k, r, hkr, hk, hr⟩ := state_parts (e.st.getD i 0) hs.1 hs.2
    have hw0 := hg.wide
    have hw1 := hg.ok.wid1
    have hlo0 := hg.ok.low
    have hlo1 := hg.ok.top
    obtain ⟨q, hq, hq4⟩ : ∃ q : Nat, e.wid / 64 % 4 = q ∧ q < 4 := ⟨(e.wid / 64 % 4).toNat, by omega, by omega⟩
    obtain ⟨less, hless⟩ : ∃ l, l = widthL.getD (4 * k + q) 0 := ⟨_, rfl⟩
    have hwo : widthOf (e.st.getD i 0) (e.wid / 64 % 4) = less := by rw [hless, hq, hkr]; unfold widthOf; congr 1; omega
    have hlr := widthL_range (4 * k + q) (by omega)
    rw [← hless] at hlr
    have hcl : i < e.st.length := by omega
    have c9 := he.state i hcl
    have ct : w.cell? ⟨tb, 4 * k + q, none⟩ = some (.int .i64 less) := by rw [cells_of he.tab, hless]; exact ints_at _ _ (by rw [widthL_len]; omega)
    obtain ⟨c0, -, c2, c3, -, -, c6, c7⟩ := he.cellsAt
    rw [hov] at c6
    have z2 := free_of he.cells 2
    have z3 := free_of he.cells 3
    rw [hkr] at c9
    obtain ⟨L, hL⟩ : ∃ L, L = e.st.length := ⟨_, rfl⟩
    obtain ⟨lo, hlo⟩ : ∃ l, l = e.low := ⟨_, rfl⟩
    obtain ⟨wi, hwi⟩ : ∃ l, l = e.wid := ⟨_, rfl⟩
    rw [← hL] at c0 hcl hc1
    rw [← hlo] at c2 hlo0 hlo1
    rw [← hwi] at c3 hw0 hw1 hlo1 hq
    have hd1 : Int.tdiv (2 * (k : Int) + r) 2 = k := by rw [Int.tdiv_eq_ediv_of_nonneg (by omega)]; omega
    have hd2 : Int.tmod (2 * (k : Int) + r) 2 = r := by rw [Int.tmod_eq_emod_of_nonneg (by omega)]; omega
    have hd3 : Int.tmod (Int.tdiv wi 64) 4 = q := by rw [Int.tdiv_eq_ediv_of_nonneg (by omega), Int.tmod_eq_emod_of_nonneg (by omega)]; exact hq
    have hsb : sb ≠ b := block_type he.sts he.cells (by decide)
    have htb : tb ≠ b := block_type he.tab he.cells (by decide)
    have hts : tb ≠ sb := he.apart
    obtain ⟨hlr0, hlr1⟩ := hlr
    have hx0 : 0 ≤ x := by omega
    have hx1 : x ≤ 1 := by omega
    have He := Lib.hid he
    have Hnar := Lib.hid hnar
    have Hn := Lib.hid hn
    have HL := Lib.hid hL
    have Hlo := Lib.hid hlo
    have Hwi := Lib.hid hwi
    have Hkr := Lib.hid hkr
    have Hwo := Lib.hid hwo
    have Hbin := Lib.hid hbin
    have Hcan := Lib.hid hcan
    clear he hnar hn hL hlo hwi hkr hwo hs hless hbin hcan hm hg hov
    go_enter Tryz.func41, Tryz.ntmps41
    by_cases hxr : x = (r : Int)
    · subst hxr
      go_wp2_with fail
      go_quiet (fail)
      go_wp2_with fail
      have h1 : RefIs ((w.drewN nq).setCell ⟨b, 3, none⟩ (.int .i64 (wi - less))) b tb sb ov { e with wid := e.wid - less } := (He.out.drewN nq).put 3 _ _ rfl rfl (by rw [Hwi.out]; rfl)
      have h2 : EncGo w ((w.drewN nq).setCell ⟨b, 3, none⟩ (.int .i64 (wi - less))) b sb ov ov := ((EncGo.refl _ _ _ _).drewN nq).set _ _
      generalize (w.drewN nq).setCell ⟨b, 3, none⟩ (.int .i64 (wi - less)) = wq at *
      have htq := h1
      obtain ⟨e0, -, -, -, -, -, -, -⟩ := h1.cellsAt
      have e9 := h1.state i (by show i < e.st.length; rw [← HL.out]; exact hcl)
      dsimp only at e9 e0
      rw [Hkr.out] at e9
      rw [← HL.out] at e0
      have H1 := Lib.hid h1
      have H1d := Lib.hid h1.drew
      have H2 := Lib.hid h2
      have hkk : 2 * (k : Int) + r < 128 := by omega
      clear h1 h2 htq c0 c2 c3 c6 c7 c9 ct z2 z3
      go_region_held3 (fun w' => w'.cell? ⟨b, 0, none⟩ = some (.slice (some ⟨sb, 0, none⟩) L L)) (first | exact e0 | go_keep | assumption)
        (first | (go_at_call 64; refine (ref_next (2 * (k : Int) + r) true wq.drew).mono ?_; rintro r2 w2 ⟨rfl, ho⟩; have g1 := H1d.out.only ho (by simp) (by simp) (by simp) (by simp); have ez := free_of g1.sts i; have e5 : w2.cell? ⟨b, 0, none⟩ = some (.slice (some ⟨sb, 0, none⟩) L L) := ho.cell (w := wq.drew) e0 (by simp); have e6 : w2.cell? ⟨sb, i, none⟩ = some (.int .i64 (2 * (k : Int) + r)) := ho.cell (w := wq.drew) e9 (by simp)))
      have hstep : stepOf (2 * (k : Int) + r) true = nextOf (2 * (k : Int) + r) true := by unfold stepOf; rw [if_pos ⟨by omega, hkk⟩]
      rw [hstep]
      have h3 : RefIs (w2.setCell ⟨sb, i, none⟩ (.int .i64 (nextOf (2 * (k : Int) + r) true))) b tb sb ov (e.narrow i (r : Int)) := by
        rw [e.narrow_likely i (r : Int) (2 * (k : Int) + r) less Hkr.out Hwo.out (by omega)]
        exact g1.setState i _
      have h4 : EncGo w (w2.setCell ⟨sb, i, none⟩ (.int .i64 (nextOf (2 * (k : Int) + r) true))) b sb ov ov := (EncGo.trans (H2.out.drew) ⟨ho.mono (by simp), fun g hg => .inl hg⟩).setS _ _
      generalize w2.setCell ⟨sb, i, none⟩ (.int .i64 (nextOf (2 * (k : Int) + r) true)) = wn at *
      have H3 := Lib.hid h3
      have H4 := Lib.hid h4
      clear h3 h4 e0 e9 e5 e6 ez g1 ho hstep
      go_wp2_with fail
      refine (ref_norm b tb sb _ _ wn H3.out Hnar.out.1 (by rw [Hnar.out.2.1]; have := Hn.out; omega) Hnar.out.2.2).mono ?_
      rintro r3 w3 ⟨rfl, ov3, g1, g2⟩
      have H5 := Lib.hid g1
      have H6 := Lib.hid (H4.out.trans (g2.go sb))
      clear g1 g2
      go_wp2
      go_ret
      rw [Hcan.out, Hbin.out]
      exact ⟨rfl, ov3, H5.out, H6.out⟩
    · have hb1 : (x == (r : Int)) = false := by simp [hxr]
      go_wp2_with fail
      go_quiet (fail)
      go_wp2_with fail
      go_region
      go_wp2_with fail
      have h1 : RefIs (((((w.drewN nq).setCell ⟨b, 3, none⟩ (.int .i64 (wi - less))).setCell ⟨b, 2, none⟩ (.int .i64 (lo + (wi - less)))).setCell ⟨b, 3, none⟩ (.int .i64 less)).drew) b tb sb ov { e with low := e.low + (e.wid - less), wid := less } := by
        have g1 : RefIs ((w.drewN nq).setCell ⟨b, 3, none⟩ (.int .i64 (wi - less))) b tb sb ov { e with wid := e.wid - less } := (He.out.drewN nq).put 3 _ _ rfl rfl (by rw [Hwi.out]; rfl)
        have g2 : RefIs (((w.drewN nq).setCell ⟨b, 3, none⟩ (.int .i64 (wi - less))).setCell ⟨b, 2, none⟩ (.int .i64 (lo + (wi - less)))) b tb sb ov { e with low := e.low + (e.wid - less), wid := e.wid - less } := g1.put 2 _ _ rfl rfl (by rw [Hwi.out, Hlo.out]; rfl)
        exact (g2.put 3 (.int .i64 less) { e with low := e.low + (e.wid - less), wid := less } rfl rfl rfl).drew
      have h2 : EncGo w (((((w.drewN nq).setCell ⟨b, 3, none⟩ (.int .i64 (wi - less))).setCell ⟨b, 2, none⟩ (.int .i64 (lo + (wi - less)))).setCell ⟨b, 3, none⟩ (.int .i64 less)).drew) b sb ov ov :=
        (((((EncGo.refl _ _ _ _).drewN nq).set _ _).set _ _).set _ _).drew
      generalize (((((w.drewN nq).setCell ⟨b, 3, none⟩ (.int .i64 (wi - less))).setCell ⟨b, 2, none⟩ (.int .i64 (lo + (wi - less)))).setCell ⟨b, 3, none⟩ (.int .i64 less)).drew) = wq at *
      have htq := h1
      obtain ⟨e0, -, -, -, -, -, -, -⟩ := h1.cellsAt
      have e9 := h1.state i (by show i < e.st.length; rw [← HL.out]; exact hcl)
      dsimp only at e9 e0
      rw [Hkr.out] at e9
      rw [← HL.out] at e0
      have H1 := Lib.hid h1
      have H1d := Lib.hid h1.drew
      have H2 := Lib.hid h2
      have hkk : 2 * (k : Int) + r < 128 := by omega
      clear h1 h2 htq c0 c2 c3 c6 c7 c9 ct z2 z3
      go_region_held3 (fun w' => w'.cell? ⟨b, 0, none⟩ = some (.slice (some ⟨sb, 0, none⟩) L L)) (first | exact e0 | go_keep | assumption)
        (first | (go_at_call 64; refine (ref_next (2 * (k : Int) + r) false wq.drew).mono ?_; rintro r2 w2 ⟨rfl, ho⟩; have g1 := H1d.out.only ho (by simp) (by simp) (by simp) (by simp); have ez := free_of g1.sts i; have e5 : w2.cell? ⟨b, 0, none⟩ = some (.slice (some ⟨sb, 0, none⟩) L L) := ho.cell (w := wq.drew) e0 (by simp); have e6 : w2.cell? ⟨sb, i, none⟩ = some (.int .i64 (2 * (k : Int) + r)) := ho.cell (w := wq.drew) e9 (by simp)))
      have hstep : stepOf (2 * (k : Int) + r) false = nextOf (2 * (k : Int) + r) false := by unfold stepOf; rw [if_pos ⟨by omega, hkk⟩]
      rw [hstep]
      have h3 : RefIs (w2.setCell ⟨sb, i, none⟩ (.int .i64 (nextOf (2 * (k : Int) + r) false))) b tb sb ov (e.narrow i x) := by
        rw [e.narrow_other i x (2 * (k : Int) + r) less Hkr.out Hwo.out (by omega)]
        exact g1.setState i _
      have h4 : EncGo w (w2.setCell ⟨sb, i, none⟩ (.int .i64 (nextOf (2 * (k : Int) + r) false))) b sb ov ov := (EncGo.trans (H2.out.drew) ⟨ho.mono (by simp), fun g hg => .inl hg⟩).setS _ _
      generalize w2.setCell ⟨sb, i, none⟩ (.int .i64 (nextOf (2 * (k : Int) + r) false)) = wn at *
      have H3 := Lib.hid h3
      have H4 := Lib.hid h4
      clear h3 h4 e0 e9 e5 e6 ez g1 ho hstep
      go_wp2_with fail
      refine (ref_norm b tb sb _ _ wn H3.out Hnar.out.1 (by rw [Hnar.out.2.1]; have := Hn.out; omega) Hnar.out.2.2).mono ?_
      rintro r3 w3 ⟨rfl, ov3, g1, g2⟩
      have H5 := Lib.hid g1
      have H6 := Lib.hid (H4.out.trans (g2.go sb))
      clear g1 g2
      go_wp2
      go_ret
      rw [Hcan.out, Hbin.out]
      exact ⟨rfl, ov3, H5.out, H6.out⟩
  · have hcf : e.canBin c x = false := by simpa using hcan
    have hbin : e.bin c x = e := by unfold Enc.bin; rw [hcf]; rfl
    rw [hcf, hbin]
    obtain ⟨c0, -, -, -, -, -, c6, -⟩ := he.cellsAt
    obtain ⟨L, hL⟩ : ∃ L, L = e.st.length := ⟨_, rfl⟩
    have hall : c < 0 ∨ (L : Int) ≤ c ∨ x < 0 ∨ 1 < x ∨ e.over = true := by
      unfold Enc.canBin Enc.may at hcf
      rw [← hL] at hcf
      cases ho : e.over
      · rw [ho] at hcf
        simp only [Bool.not_false, Bool.and_true, Bool.and_eq_false_iff, Bool.or_eq_false_iff, beq_eq_false_iff_ne, decide_eq_false_iff_not] at hcf
        omega
      · simp
    rw [← hL] at c0
    obtain ⟨o, ho⟩ : ∃ o, o = e.over := ⟨_, rfl⟩
    rw [← ho] at c6 hall
    have He := Lib.hid he
    clear he hcan hcf hbin hL ho hg hn
    go_enter Tryz.func41, Tryz.ntmps41
    by_cases k1 : c < 0
    · go_wp2 <;> go_ret <;> exact ⟨rfl, ov, He.out, EncGo.refl _ _ _ _⟩
    · by_cases k2 : (L : Int) ≤ c
      · go_wp2 <;> go_ret <;> exact ⟨rfl, ov, He.out, EncGo.refl _ _ _ _⟩
      · by_cases k3 : x < 0
        · go_wp2 <;> go_ret <;> exact ⟨rfl, ov, He.out, EncGo.refl _ _ _ _⟩
        · by_cases k4 : 1 < x
          · go_wp2 <;> go_ret <;> exact ⟨rfl, ov, He.out, EncGo.refl _ _ _ _⟩
          · obtain rfl : o = true := by rcases hall with h | h | h | h | h <;> first | omega | exact h
            go_wp2 <;> go_ret <;> exact ⟨rfl, ov, He.out, EncGo.refl _ _ _ _⟩
end Go.Proofs.YtgmnkihldlajcaaGreatDoor
