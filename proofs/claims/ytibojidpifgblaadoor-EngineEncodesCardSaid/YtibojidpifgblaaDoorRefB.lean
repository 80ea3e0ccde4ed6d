/-
  The walks over the document's own encoder (package zoetroperef5): put, norm.
-/
import Derived.Test.YtibojidpifgblaaDoorEngF
import Derived.Test.YtibojidpifgblaaDoorRefA
namespace Go.Proofs.YtibojidpifgblaaDoor
open Go.RowKit

/-- Its cells. -/
def refCells (tb sb L : Nat) (bv : Value) (low wid outs : Int) (begun over : Bool) : Array Value :=
  #[.slice (some ⟨sb, 0, none⟩) L L, bv, .int .i64 low, .int .i64 wid, .int .i64 outs, .bool (!begun), .bool over, .slice (some ⟨tb, 0, none⟩) 256 256]
structure RefIs (w : World) (b tb sb : Nat) (bv : Value) (e : Enc) : Prop where
  cells : w.heap[b]? = some (.cells (refCells tb sb e.st.length bv e.low e.wid e.outs e.begun e.over) 46 (0, 0))
  tab : w.heap[tb]? = some (.cells (ints widthL) 3 (0, 0))
  sts : w.heap[sb]? = some (.cells (ints e.st) 3 (0, 0))
  apart : tb ≠ sb
  out : w.ownsRow 0 5 1 bv e.bits.length (bytesOf e.bits)
theorem RefIs.put {w : World} {b tb sb : Nat} {bv : Value} {e : Enc} (h : RefIs w b tb sb bv e) (i : Nat) (u : Value) (e' : Enc) (hst : e'.st = e.st) (hbits : e'.bits = e.bits)
    (hc : (refCells tb sb e.st.length bv e.low e.wid e.outs e.begun e.over).setIfInBounds i u = refCells tb sb e.st.length bv e'.low e'.wid e'.outs e'.begun e'.over) :
    RefIs (w.setCell ⟨b, i, none⟩ u) b tb sb bv e' := by
  refine ⟨?_, heap_set_other _ h.tab (block_type h.tab h.cells (by decide)), ?_, h.apart, ?_⟩
  · rw [heap_set_same _ h.cells, hc, hst]
  · rw [hst]; exact heap_set_other _ h.sts (block_type h.sts h.cells (by decide))
  · rw [hbits]
    refine ownsRow_of_block h.out fun k hk => ?_
    obtain ⟨cur, hc⟩ := ownsRow_block h.out hk
    exact Below.heap_setCell _ _ _ _ (block_type hc h.cells (by decide))
theorem RefIs.drew {w : World} {b tb sb : Nat} {bv : Value} {e : Enc} (h : RefIs w b tb sb bv e) : RefIs w.drew b tb sb bv e := ⟨h.cells, h.tab, h.sts, h.apart, ownsRow_of_block h.out (fun _ _ => rfl)⟩
theorem RefIs.drewN {w : World} {b tb sb : Nat} {bv : Value} {e : Enc} (h : RefIs w b tb sb bv e) (n : Nat) : RefIs (w.drewN n) b tb sb bv e := ⟨h.cells, h.tab, h.sts, h.apart, ownsRow_of_block h.out (fun _ _ => rfl)⟩
theorem RefIs.cellsAt {w : World} {b tb sb : Nat} {bv : Value} {e : Enc} (h : RefIs w b tb sb bv e) : w.cell? ⟨b, 0, none⟩ = some (.slice (some ⟨sb, 0, none⟩) e.st.length e.st.length) ∧ w.cell? ⟨b, 1, none⟩ = some bv ∧
    w.cell? ⟨b, 2, none⟩ = some (.int .i64 e.low) ∧ w.cell? ⟨b, 3, none⟩ = some (.int .i64 e.wid) ∧ w.cell? ⟨b, 4, none⟩ = some (.int .i64 e.outs) ∧ w.cell? ⟨b, 5, none⟩ = some (.bool (!e.begun)) ∧ w.cell? ⟨b, 6, none⟩ = some (.bool e.over) ∧
    w.cell? ⟨b, 7, none⟩ = some (.slice (some ⟨tb, 0, none⟩) 256 256) := by
  refine ⟨?_, ?_, ?_, ?_, ?_, ?_, ?_, ?_⟩ <;> (rw [cells_of h.cells]; rfl)
theorem RefIs.state {w : World} {b tb sb : Nat} {bv : Value} {e : Enc} (h : RefIs w b tb sb bv e) (i : Nat) (hi : i < e.st.length) : w.cell? ⟨sb, i, none⟩ = some (.int .i64 (e.st.getD i 0)) := by
  rw [cells_of h.sts]; exact ints_at _ _ hi
theorem RefIs.setState {w : World} {b tb sb : Nat} {bv : Value} {e : Enc} (h : RefIs w b tb sb bv e) (i : Nat) (v : Int) :
    RefIs (w.setCell ⟨sb, i, none⟩ (.int .i64 v)) b tb sb bv { e with st := e.st.set i v } := by
  refine ⟨?_, heap_set_other _ h.tab h.apart, ?_, h.apart, ?_⟩
  · have := heap_set_other (i := i) (.int .i64 v) h.cells (block_type h.cells h.sts (by decide))
    simpa using this
  · rw [heap_set_same _ h.sts, ints_setIf]
  · refine ownsRow_of_block h.out fun k hk => ?_
    obtain ⟨cur, hc⟩ := ownsRow_block h.out hk
    exact Below.heap_setCell _ _ _ _ (block_type hc h.sts (by decide))
/-- One bit more behind the bits. -/
theorem RefIs.pushed {w w2 : World} {b tb sb g cap : Nat} {bv : Value} {e : Enc} (x : Int) (h : RefIs w b tb sb bv e)
    (hp : Pushed w 0 5 1 bv (e.bits.length + 1) (bytesOf e.bits ++ [.int .u8 x]) (.slice (some ⟨g, 0, none⟩) (e.bits.length + 1) cap) w2) :
    w2.frozen? ⟨b, 1, none⟩ = false ∧ w2.cell? ⟨b, 1, none⟩ = some bv ∧ RefIs (w2.setCell ⟨b, 1, none⟩ (.slice (some ⟨g, 0, none⟩) (e.bits.length + 1) cap)) b tb sb (.slice (some ⟨g, 0, none⟩) (e.bits.length + 1) cap) (e.bit x) ∧
      EncTo w (w2.setCell ⟨b, 1, none⟩ (.slice (some ⟨g, 0, none⟩) (e.bits.length + 1) cap)) b bv (.slice (some ⟨g, 0, none⟩) (e.bits.length + 1) cap) := by
  have hk : ∀ k, k < w.heap.size → bv.ownBlock ≠ some k → w2.heap[k]? = w.heap[k]? := fun k hk hr => hp.2.1.block k hk (fun e => hr e.symm)
  have hob : ∀ k cs t, w.heap[k]? = some (.cells cs t (0, 0)) → t ≠ 5 → bv.ownBlock ≠ some k := fun k cs t h1 h2 h3 => by
    obtain ⟨cur, hc⟩ := ownsRow_block h.out h3
    exact block_type h1 hc h2 rfl
  have hcb := (hk b (lt_of_block h.cells) (hob b _ _ h.cells (by decide))).trans h.cells
  have htb := (hk tb (lt_of_block h.tab) (hob tb _ _ h.tab (by decide))).trans h.tab
  have hsb := (hk sb (lt_of_block h.sts) (hob sb _ _ h.sts (by decide))).trans h.sts
  have hbits : bytesOf e.bits ++ [Value.int .u8 x] = bytesOf (e.bit x).bits := by simp [bytesOf, Enc.bit]
  have ho2 := hp.1
  rw [hbits] at ho2
  obtain ⟨cur, hgb⟩ := ownsRow_block ho2 rfl
  have hg : g ≠ b := block_type hgb hcb (by decide)
  have hnew : bv.ownBlock = some g ∨ w.heap.size ≤ g := by
    obtain ⟨g2, cap2, h1, h2⟩ := hp.2.2
    simp only [Value.slice.injEq, Option.some.injEq, Addr.mk.injEq] at h1
    obtain ⟨⟨rfl, -⟩, -, -⟩ := h1
    exact h2
  refine ⟨free_of hcb 1, by rw [cells_of hcb]; rfl, ⟨?_, heap_set_other _ htb (block_type htb hcb (by decide)), heap_set_other _ hsb (block_type hsb hcb (by decide)), h.apart, ?_⟩, ?_⟩
  · rw [heap_set_same _ hcb]
    rfl
  · have hl : (e.bit x).bits.length = e.bits.length + 1 := by simp [Enc.bit]
    rw [hl]
    exact ownsRow_of_block ho2 (fun k hk => by
      simp [Value.ownBlock] at hk
      subst hk
      exact Below.heap_setCell _ _ _ _ hg)
  · refine ⟨((Only.refl _ _).grown hp.2.1 (fun k hk => .inl (by simp [hk]))).setCell (.inl (by simp)) _, fun g' hg' => ?_⟩
    simp [Value.ownBlock] at hg'
    subst hg'
    exact hnew

set_option maxRecDepth 100000 in
set_option maxHeartbeats 1600000 in
theorem ref_put (b tb sb : Nat) (bv : Value) (e : Enc) (x : Int) (w : World) (he : RefIs w b tb sb bv e) (hx : x = 0 ∨ x = 1) (hn : e.cost < 900000000) :
    Calls Tryd.prog 57 #[.pointer (some ⟨b, 0, none⟩), .int .i64 x] w fun r w' => r = .returned (.tuple #[]) ∧ ∃ bv', RefIs w' b tb sb bv' (e.put x) ∧ EncTo w w' b bv bv' := by
  obtain ⟨-, c1, -, -, -, c5, -, -⟩ := he.cellsAt
  have z5 := free_of he.cells 5
  have Hc := he.cells
  have hlen : e.bits.length ≤ e.cost := by unfold Enc.cost; omega
  have hown := he.out
  have hx8 : IntKind.u8.wrap x = x := by rcases hx with rfl | rfl <;> decide
  have hx9 : IntKind.u8.wrap (1 - x) = 1 - x := by rcases hx with rfl | rfl <;> decide
  have hm8 : x % 256 = x := by omega
  have hm9 : (1 - x) % 256 = 1 - x := by omega
  have He := Lib.hid he
  have Hn := Lib.hid hn
  have Hl := Lib.hid hlen
  clear he hn hlen
  go_enter Tryd.func57, Tryd.ntmps57
  cases hbg : e.begun
  case' false =>
    rw [hbg] at c5
    have h1 : RefIs (w.setCell ⟨b, 5, none⟩ (.bool false)) b tb sb bv (e.puts x e.outs) := He.out.put 5 _ _ rfl (by simp [Enc.puts, hbg]) rfl
    have h2 : EncTo w (w.setCell ⟨b, 5, none⟩ (.bool false)) b bv bv := (EncTo.refl _ _ _).set _ _
    clear hown c1
    go_wp2
    generalize w.setCell ⟨b, 5, none⟩ (.bool false) = wz at *
  case' true =>
    rw [hbg] at c5
    go_wp2_with (at_builtin; refine wpList_push rfl _ _ rfl elt8 0 _ _ _ _ hown rfl rfl (by simp) rfl (by omega) (by decide) (by have := Hn.out; have := Hl.out; omega) ?_)
    intro g cap w2 hp
    try rw [hm8] at hp
    obtain ⟨g1, g2, h1, h2⟩ := He.out.pushed x hp
    have h1' : RefIs (w2.setCell ⟨b, 1, none⟩ (.slice (some ⟨g, 0, none⟩) (e.bits.length + 1) cap)) b tb sb (.slice (some ⟨g, 0, none⟩) (e.bits.length + 1) cap) (e.puts x e.outs) := by
      have : e.puts x e.outs = e.bit x := by unfold Enc.puts Enc.bit; simp [hbg]
      rw [this]; exact h1
    clear h1 hp hown c1
    have h1 := h1'
    clear h1'
    go_wp2
    generalize w2.setCell ⟨b, 1, none⟩ (.slice (some ⟨g, 0, none⟩) (e.bits.length + 1) cap) = wz at *
    clear g1 g2
  all_goals
    have H1 := Lib.hid h1
    have H2 := Lib.hid h2
    clear h1 h2 Hc c5 z5 He
    go_loopw [] (fun wr => ∃ (j : Nat) (ov2 : Value), j ≤ e.outs ∧ RefIs wr b tb sb ov2 (e.puts x j) ∧ EncTo w wr b bv ov2) (fun wr => cellNat wr b 4)
    case atStart => exact ⟨e.outs, _, Nat.le_refl _, H1.out, H2.out⟩
    case round =>
      obtain ⟨j, ov2, hj, hi, ht⟩ := hrel
      obtain ⟨-, d1, -, -, d4, -, -, -⟩ := hi.cellsAt
      have d4' : wr.cell? ⟨b, 4, none⟩ = some (.int .i64 (j : Int)) := d4
      have hle : (j : Int) ≤ 900000000 := by have := Hn.out; unfold Enc.cost at this; omega
      have hcn := cellNat_of d4'
      have hown2 := hi.out
      clear d4
      have Hi := Lib.hid hi
      have Ht := Lib.hid ht
      clear hi ht
      by_cases hz : j = 0
      · subst hz
        rw [Enc.puts_zero] at Hi
        clear hown2 d1
        go_wp2
        go_end0
        exact ⟨rfl, _, Hi.out, Ht.out⟩
      · obtain ⟨i, rfl⟩ : ∃ i, j = i + 1 := ⟨j - 1, by omega⟩
        have hlp := e.puts_len x (i + 1) hj
        have Hlp := Lib.hid hlp
        clear hlp
        go_wp2_with (at_builtin; refine wpList_push rfl _ _ rfl elt8 0 _ _ _ _ hown2 rfl rfl (by simp) rfl (by omega) (by decide) (by have := Hn.out; have := Hlp.out; omega) ?_)
        intro g cap w2 hp
        try rw [hm9] at hp
        obtain ⟨g1, g2, h1, h2⟩ := Hi.out.pushed (1 - x) hp
        have y4 : (w2.setCell ⟨b, 1, none⟩ (.slice (some ⟨g, 0, none⟩) ((e.puts x (i + 1)).bits.length + 1) cap)).frozen? ⟨b, 4, none⟩ = false := free_of h1.cells 4
        obtain ⟨-, -, -, -, d5, -, -, -⟩ := h1.cellsAt
        have d5' : (w2.setCell ⟨b, 1, none⟩ (.slice (some ⟨g, 0, none⟩) ((e.puts x (i + 1)).bits.length + 1) cap)).cell? ⟨b, 4, none⟩ = some (.int .i64 ((i : Int) + 1)) := by rw [d5]; simp [Enc.bit, Enc.puts]
        have h3 : RefIs ((w2.setCell ⟨b, 1, none⟩ (.slice (some ⟨g, 0, none⟩) ((e.puts x (i + 1)).bits.length + 1) cap)).setCell ⟨b, 4, none⟩ (.int .i64 i)) b tb sb (.slice (some ⟨g, 0, none⟩) ((e.puts x (i + 1)).bits.length + 1) cap) (e.puts x i) := by
          rw [← Enc.puts_step e x i hj]
          exact h1.put 4 _ _ rfl rfl rfl
        have h4 : EncTo w ((w2.setCell ⟨b, 1, none⟩ (.slice (some ⟨g, 0, none⟩) ((e.puts x (i + 1)).bits.length + 1) cap)).setCell ⟨b, 4, none⟩ (.int .i64 i)) b bv (.slice (some ⟨g, 0, none⟩) ((e.puts x (i + 1)).bits.length + 1) cap) := Ht.out.trans (h2.set _ _)
        have H3 := Lib.hid h3
        have H4 := Lib.hid h4
        clear hp h1 h2 d5 h3 h4 hown2 d1 d4'
        go_wp2
        go_roundw
        case rel => exact ⟨i, _, by omega, H3.out, H4.out⟩
        case measure =>
          have h5 : _ = ((i : Nat) : Int).toNat := cellNat_of (H3.out.cellsAt.2.2.2.2.1)
          omega

theorem RefIs.twice {w : World} {b tb sb : Nat} {bv : Value} {f : Enc} (h : RefIs w b tb sb bv f) :
    RefIs ((w.setCell ⟨b, 3, none⟩ (.int .i64 (2 * f.wid))).setCell ⟨b, 2, none⟩ (.int .i64 (2 * f.low))) b tb sb bv f.twice := by
  have h1 : RefIs (w.setCell ⟨b, 3, none⟩ (.int .i64 (2 * f.wid))) b tb sb bv { f with wid := 2 * f.wid } := h.put 3 _ _ rfl rfl rfl
  exact h1.put 2 _ _ rfl rfl rfl

set_option maxRecDepth 100000 in
set_option maxHeartbeats 1600000 in
theorem ref_norm (b tb sb : Nat) (ov : Value) (e : Enc) (w : World) (he : RefIs w b tb sb ov e) (hok : e.Ok) (hn : e.cost < 800000000) (hw : 256 ≤ e.wid * 2 ^ 8) :
    Calls Tryd.prog 56 #[.pointer (some ⟨b, 0, none⟩)] w fun r w' => r = .returned (.tuple #[]) ∧ ∃ ov', RefIs w' b tb sb ov' (Enc.norm 8 e) ∧ EncTo w w' b ov ov' := by
  have He := Lib.hid he
  have Hok := Lib.hid hok
  have Hn := Lib.hid hn
  have Hw := Lib.hid hw
  clear he hok hn hw
  go_enter Tryd.func56, Tryd.ntmps56
  go_wp2
  go_loopw [] (fun wr => ∃ (k : Nat) (ov2 : Value) (f : Enc), RefIs wr b tb sb ov2 f ∧ f.Ok ∧ EncTo w wr b ov ov2 ∧ Enc.norm k f = Enc.norm 8 e ∧ 256 ≤ f.wid * 2 ^ k ∧ f.cost + k ≤ e.cost + 8) (fun wr => 1024 - cellNat wr b 3)
  case atStart => exact ⟨8, ov, e, He.out, Hok.out, EncTo.refl _ _ _, rfl, Hw.out, Nat.le_refl _⟩
  case round =>
    obtain ⟨k, ov2, f, hi, ho, ht, hnorm, hk, hcost⟩ := hrel
    obtain ⟨-, -, c2, c3, c4, -, -, -⟩ := hi.cellsAt
    have y2 := free_of hi.cells 2
    have y4 := free_of hi.cells 4
    have hl0 := ho.low
    have hl1 := ho.top
    have hw0 := ho.wid0
    have hw1 := ho.wid1
    have ho1 : (f.outs : Int) ≤ 900000000 := by have := Hn.out; unfold Enc.cost at *; omega
    have hcn := cellNat_of c3
    have Hi := Lib.hid hi
    have Ho := Lib.hid ho
    have Ht := Lib.hid ht
    have Hk := Lib.hid hk
    have Hnorm := Lib.hid hnorm
    have Hcost := Lib.hid hcost
    have Hcn := Lib.hid hcn
    clear hi ho ht hnorm hk hcost hcn
    by_cases hwid : f.wid < 256
    · obtain ⟨k, rfl⟩ : ∃ j, k = j + 1 := ⟨k - 1, by
        have := Hk.out
        rcases k with _ | k
        · simp at this; omega
        · omega⟩
      have hs := f.ok_shift Ho.out hwid
      have hnx := Enc.norm_step k f hwid
      have Hs : Hid (f.shift.Ok ∧ Enc.norm k f.shift = Enc.norm 8 e ∧ 256 ≤ f.shift.wid * 2 ^ k ∧ f.shift.cost + k ≤ e.cost + 8 ∧ f.shift.wid = 2 * f.wid) :=
        Lib.hid ⟨hs.1, hnx ▸ Hnorm.out, by rw [hs.2.1, Int.mul_comm 2, Int.mul_assoc, Int.mul_comm 2, ← Int.pow_succ]; exact Hk.out, by have := hs.2.2; have := Hcost.out; omega, hs.2.1⟩
      clear hs hnx Hk Hnorm
      by_cases c1 : f.low < 256
      · have hsh := f.shift_low c1
        go_wp2_with fail
        refine (ref_put b tb sb ov2 f 0 wr Hi.out (.inl rfl) (by have := Hn.out; have := Hcost.out; omega)).mono ?_
        rintro r w1 ⟨rfl, ov3, g1, g2⟩
        obtain ⟨-, -, d2, d3, -, -, -, -⟩ := g1.cellsAt
        have d2' : w1.cell? ⟨b, 2, none⟩ = some (.int .i64 f.low) := d2
        have d3' : w1.cell? ⟨b, 3, none⟩ = some (.int .i64 f.wid) := d3
        have x2 := free_of g1.cells 2
        have x3 := free_of g1.cells 3
        have h1 : RefIs ((w1.setCell ⟨b, 3, none⟩ (.int .i64 (2 * f.wid))).setCell ⟨b, 2, none⟩ (.int .i64 (2 * f.low))) b tb sb ov3 f.shift := hsh ▸ g1.twice
        have h2 : EncTo w ((w1.setCell ⟨b, 3, none⟩ (.int .i64 (2 * f.wid))).setCell ⟨b, 2, none⟩ (.int .i64 (2 * f.low))) b ov ov3 := Ht.out.trans ((g2.set _ _).set _ _)
        have H1 := Lib.hid h1
        have H2 := Lib.hid h2
        clear d2 d3 g1 g2 h1 h2 hsh
        go_wp2
        go_roundw
        case rel => exact ⟨k, ov3, _, H1.out, Hs.out.1, H2.out, Hs.out.2.1, Hs.out.2.2.1, Hs.out.2.2.2.1⟩
        case measure =>
          have h3 := cellNat_of (H1.out.cellsAt.2.2.2.1)
          have h4 := Hs.out.2.2.2.2
          have h5 := Hcn.out
          omega
      · by_cases c2 : 512 ≤ f.low
        · have hsh := f.shift_high c2
          have h0 : RefIs (wr.setCell ⟨b, 2, none⟩ (.int .i64 (f.low - 512))) b tb sb ov2 { f with low := f.low - 512 } := Hi.out.put 2 _ _ rfl rfl rfl
          have hok2 : Enc.Ok { f with low := f.low - 512 } := f.ok_low _ _ _ Ho.out (by omega) (by omega) hw0 hw1
          have H0 := Lib.hid h0
          clear h0 hok2
          go_wp2_with fail
          refine (ref_put b tb sb ov2 _ 1 _ H0.out (.inr rfl) (by have := Hn.out; have := Hcost.out; unfold Enc.cost at *; dsimp only; omega)).mono ?_
          rintro r w1 ⟨rfl, ov3, g1, g2⟩
          obtain ⟨-, -, d2, d3, -, -, -, -⟩ := g1.cellsAt
          have d2' : w1.cell? ⟨b, 2, none⟩ = some (.int .i64 (f.low - 512)) := d2
          have d3' : w1.cell? ⟨b, 3, none⟩ = some (.int .i64 f.wid) := d3
          have x2 := free_of g1.cells 2
          have x3 := free_of g1.cells 3
          have h1 : RefIs ((w1.setCell ⟨b, 3, none⟩ (.int .i64 (2 * f.wid))).setCell ⟨b, 2, none⟩ (.int .i64 (2 * (f.low - 512)))) b tb sb ov3 f.shift := hsh ▸ g1.twice
          have h2 : EncTo w ((w1.setCell ⟨b, 3, none⟩ (.int .i64 (2 * f.wid))).setCell ⟨b, 2, none⟩ (.int .i64 (2 * (f.low - 512)))) b ov ov3 := Ht.out.trans ((((EncTo.refl _ _ _).set _ _).trans g2).set _ _ |>.set _ _)
          have H1 := Lib.hid h1
          have H2 := Lib.hid h2
          clear d2 d3 g1 g2 h1 h2 hsh
          go_wp2
          go_roundw
          case rel => exact ⟨k, ov3, _, H1.out, Hs.out.1, H2.out, Hs.out.2.1, Hs.out.2.2.1, Hs.out.2.2.2.1⟩
          case measure =>
            have h3 := cellNat_of (H1.out.cellsAt.2.2.2.1)
            have h4 := Hs.out.2.2.2.2
            have h5 := Hcn.out
            omega
        · have hsh := f.shift_mid c1 c2
          have h0 : RefIs (wr.setCell ⟨b, 2, none⟩ (.int .i64 (f.low - 256))) b tb sb ov2 { f with low := f.low - 256 } := Hi.out.put 2 _ _ rfl rfl rfl
          have h00 : RefIs ((wr.setCell ⟨b, 2, none⟩ (.int .i64 (f.low - 256))).setCell ⟨b, 4, none⟩ (.int .i64 ((f.outs : Int) + 1))) b tb sb ov2 { f with low := f.low - 256, outs := f.outs + 1 } := h0.put 4 _ _ rfl rfl rfl
          have h1 : RefIs ((((wr.setCell ⟨b, 2, none⟩ (.int .i64 (f.low - 256))).setCell ⟨b, 4, none⟩ (.int .i64 ((f.outs : Int) + 1))).setCell ⟨b, 3, none⟩ (.int .i64 (2 * f.wid))).setCell ⟨b, 2, none⟩ (.int .i64 (2 * (f.low - 256)))) b tb sb ov2 f.shift := hsh ▸ h00.twice
          have h2 := ((((Ht.out.set 2 (.int .i64 (f.low - 256))).set 4 (.int .i64 ((f.outs : Int) + 1))).set 3 (.int .i64 (2 * f.wid))).set 2 (.int .i64 (2 * (f.low - 256))))
          have x3 := free_of Hi.out.cells 3
          have H1 := Lib.hid h1
          have H2 := Lib.hid h2
          clear h0 h00 h1 h2 hsh
          go_wp2
          go_roundw
          case rel => exact ⟨k, ov2, _, H1.out, Hs.out.1, H2.out, Hs.out.2.1, Hs.out.2.2.1, Hs.out.2.2.2.1⟩
          case measure =>
            have h3 := cellNat_of (H1.out.cellsAt.2.2.2.1)
            have h4 := Hs.out.2.2.2.2
            have h5 := Hcn.out
            omega
    · have hd := Enc.norm_done k f (by omega)
      have H1 : Hid (RefIs wr b tb sb ov2 (Enc.norm 8 e)) := Lib.hid (by rw [← Hnorm.out, hd]; exact Hi.out)
      clear hd
      go_wp2
      go_end0
      exact ⟨rfl, _, H1.out, Ht.out⟩
end Go.Proofs.YtibojidpifgblaaDoor
