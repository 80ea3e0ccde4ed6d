/-
  The walks over the document's own encoder: Bypass, Terminate; bits packed.
-/
import Derived.Test.YtgmnkihldlajcaaGreatDoorRefB
import Derived.Test.YtgmnkihldlajcaaGreatDoorEngG
namespace Go.Proofs.YtgmnkihldlajcaaGreatDoor
open Go.RowKit

theorem ref_guard (e : Enc) (x : Int) (h : e.may x = false) : x < 0 ∨ 1 < x ∨ e.over = true := by
  unfold Enc.may at h
  cases ho : e.over
  · rw [ho] at h
    simp only [Bool.not_false, Bool.and_true, Bool.or_eq_false_iff, beq_eq_false_iff_ne] at h
    omega
  · simp

set_option maxRecDepth 100000 in
set_option maxHeartbeats 1600000 in
theorem ref_bypass (b tb sb : Nat) (ov : Value) (e : Enc) (x : Int) (w : World) (he : RefIs w b tb sb ov e) (hg : e.Good) (hn : e.cost < 700000000) :
    Calls Tryz.prog 29 #[.pointer (some ⟨b, 0, none⟩), .int .i64 x] w fun r w' => r = .returned (.int .i64 (codeOf (e.may x))) ∧ ∃ ov', RefIs w' b tb sb ov' (e.bypass x) ∧ EncGo w w' b sb ov ov' := by
  by_cases hm : e.may x = true
  · have hby : e.bypass x = e.half x := by unfold Enc.bypass; rw [if_pos hm]
    obtain ⟨hx, hov⟩ := e.may_bit x hm
    obtain ⟨-, -, c2, c3, c4, -, c6, -⟩ := he.cellsAt
    rw [hov] at c6
    have z2 := free_of he.cells 2
    have z4 := free_of he.cells 4
    obtain ⟨m, hm1, hm2⟩ : ∃ m, x * e.wid = m ∧ (m = 0 ∨ m = e.wid) := by rcases hx with rfl | rfl <;> simp
    have hw0 := hg.wide
    have hw1 := hg.ok.wid1
    have hlo0 := hg.ok.low
    have hlo1 := hg.ok.top
    have hou : (e.outs : Int) ≤ 900000000 := by unfold Enc.cost at hn; omega
    have hh : e.half x = (if 1024 ≤ 2 * e.low + m then { Enc.put { e with low := 2 * e.low + m } 1 with low := 2 * e.low + m - 1024 } else if 2 * e.low + m < 512 then Enc.put { e with low := 2 * e.low + m } 0 else { e with low := 2 * e.low + m - 512, outs := e.outs + 1 }) := by
      unfold Enc.half
      dsimp only
      rw [hm1]
      rfl
    obtain ⟨lo, hlo⟩ : ∃ l, l = e.low := ⟨_, rfl⟩
    obtain ⟨wi, hwi⟩ : ∃ l, l = e.wid := ⟨_, rfl⟩
    rw [← hlo] at c2 hlo0 hlo1 hh
    rw [← hwi] at c3 hw0 hw1 hlo1 hm1 hm2
    have He := Lib.hid he
    have Hn := Lib.hid hn
    have Hg := Lib.hid hg
    have Hm := Lib.hid hm
    have Hby := Lib.hid hby
    have Hm1 := Lib.hid hm1
    have Hh := Lib.hid hh
    have Hcost : Hid (∀ (l : Int), Enc.cost { e with low := l } < 900000000) := Lib.hid (fun l => by unfold Enc.cost at *; dsimp only; omega)
    obtain ⟨l, hl⟩ : ∃ l : Int, l = 2 * lo + m := ⟨_, rfl⟩
    rw [← hl] at hh
    have hl0 : 0 ≤ l := by omega
    have hl1 : l ≤ 2048 := by omega
    have Hl := Lib.hid hl
    have Hh := Lib.hid hh
    clear he hn hg hm hby hh hm1 hov hlo hwi hl
    go_enter Tryz.func29, Tryz.ntmps29
    rcases hx with rfl | rfl
    · have hm0 : m = 0 := by have := Hm1.out; omega
      have hll : l = 2 * lo := by have := Hl.out; omega
      clear Hl
      subst hll hm0
      have hh := Hh.out
      try rw [Int.add_zero] at hh
      have h1 : RefIs (w.setCell ⟨b, 2, none⟩ (.int .i64 (2 * lo))) b tb sb ov { e with low := 2 * lo } := He.out.put 2 _ _ rfl rfl rfl
      have h2 : EncTo w (w.setCell ⟨b, 2, none⟩ (.int .i64 (2 * lo))) b ov ov := (EncTo.refl _ _ _).set _ _
      have H1 := Lib.hid h1
      have H2 := Lib.hid h2
      clear h1 h2
      by_cases k1 : 1024 ≤ 2 * lo
      · rw [if_pos k1] at hh
        have Hh2 := Lib.hid hh
        clear hh
        go_wp2_with fail
        refine (ref_put b tb sb ov { e with low := 2 * lo } 1 _ H1.out (.inr rfl) (Hcost.out (2 * lo))).mono ?_
        rintro r w1 ⟨rfl, ov3, g1, g2⟩
        obtain ⟨-, -, q2, -, -, -, -, -⟩ := g1.cellsAt
        have q2' : w1.cell? ⟨b, 2, none⟩ = some (.int .i64 (2 * lo)) := q2
        have x2 := free_of g1.cells 2
        have h5 : RefIs (w1.setCell ⟨b, 2, none⟩ (.int .i64 (2 * lo - 1024))) b tb sb ov3 { Enc.put { e with low := 2 * lo } 1 with low := 2 * lo - 1024 } := g1.put 2 (.int .i64 (2 * lo - 1024)) { Enc.put { e with low := 2 * lo } 1 with low := 2 * lo - 1024 } rfl rfl rfl
        rw [← Hh2.out] at h5
        have H5 := Lib.hid h5
        have H6 := Lib.hid (((H2.out.trans g2).set 2 (.int .i64 (2 * lo - 1024))).go sb)
        clear g1 g2 q2 h5
        go_wp2
        go_ret
        rw [Hby.out, Hm.out]
        exact ⟨rfl, ov3, H5.out, H6.out⟩
      · rw [if_neg k1] at hh
        by_cases k2 : 2 * lo < 512
        · rw [if_pos k2] at hh
          have Hh2 := Lib.hid hh
          clear hh
          go_wp2_with fail
          refine (ref_put b tb sb ov { e with low := 2 * lo } 0 _ H1.out (.inl rfl) (Hcost.out (2 * lo))).mono ?_
          rintro r w1 ⟨rfl, ov3, g1, g2⟩
          rw [← Hh2.out] at g1
          have H5 := Lib.hid g1
          have H6 := Lib.hid ((H2.out.trans g2).go sb)
          clear g1 g2
          go_wp2
          go_ret
          rw [Hby.out, Hm.out]
          exact ⟨rfl, ov3, H5.out, H6.out⟩
        · rw [if_neg k2] at hh
          have Hh2 := Lib.hid hh
          clear hh
          have h0 : RefIs (((w.setCell ⟨b, 2, none⟩ (.int .i64 (2 * lo))).setCell ⟨b, 2, none⟩ (.int .i64 (2 * lo - 512))).setCell ⟨b, 4, none⟩ (.int .i64 ((e.outs : Int) + 1))) b tb sb ov { e with low := 2 * lo - 512, outs := e.outs + 1 } :=
            RefIs.put (e := { e with low := 2 * lo - 512 }) (H1.out.put 2 _ _ rfl rfl rfl) 4 _ _ rfl rfl rfl
          rw [← Hh2.out] at h0
          have H5 := Lib.hid h0
          have H6 := Lib.hid (((H2.out.set 2 (.int .i64 (2 * lo - 512))).set 4 (.int .i64 ((e.outs : Int) + 1))).go sb)
          clear h0
          go_wp2
          go_ret
          rw [Hby.out, Hm.out]
          exact ⟨rfl, ov, H5.out, H6.out⟩
    · have hm0 : m = wi := by have := Hm1.out; omega
      subst hm0
      go_wp2_with fail
      go_region
      have hle : 2 * lo + m = l := by have := Hl.out; omega
      have h1 : RefIs ((w.setCell ⟨b, 2, none⟩ (.int .i64 (2 * lo))).setCell ⟨b, 2, none⟩ (.int .i64 (2 * lo + m))).drew b tb sb ov { e with low := l } := by
        have g1 : RefIs (w.setCell ⟨b, 2, none⟩ (.int .i64 (2 * lo))) b tb sb ov { e with low := 2 * lo } := He.out.put 2 _ _ rfl rfl rfl
        exact (g1.put 2 (.int .i64 (2 * lo + m)) { e with low := l } rfl rfl (by rw [hle]; rfl)).drew
      have h2 : EncTo w ((w.setCell ⟨b, 2, none⟩ (.int .i64 (2 * lo))).setCell ⟨b, 2, none⟩ (.int .i64 (2 * lo + m))).drew b ov ov := (((EncTo.refl _ _ _).set _ _).set _ _).drew
      generalize ((w.setCell ⟨b, 2, none⟩ (.int .i64 (2 * lo))).setCell ⟨b, 2, none⟩ (.int .i64 (2 * lo + m))).drew = wq at *
      clear hle
      have hh := Hh.out
      have H1 := Lib.hid h1
      have H2 := Lib.hid h2
      obtain ⟨-, -, d2, -, d4, -, -, -⟩ := h1.cellsAt
      have d2' : wq.cell? ⟨b, 2, none⟩ = some (.int .i64 l) := d2
      have d4' : wq.cell? ⟨b, 4, none⟩ = some (.int .i64 e.outs) := d4
      have y2 := free_of h1.cells 2
      have y4 := free_of h1.cells 4
      clear h1 h2 d2 d4 c2 c3 c4 c6 z2 z4
      by_cases k1 : 1024 ≤ l
      · rw [if_pos k1] at hh
        have Hh2 := Lib.hid hh
        clear hh
        go_wp2_with fail
        refine (ref_put b tb sb ov { e with low := l } 1 wq H1.out (.inr rfl) (Hcost.out l)).mono ?_
        rintro r w1 ⟨rfl, ov3, g1, g2⟩
        obtain ⟨-, -, q2, -, -, -, -, -⟩ := g1.cellsAt
        have q2' : w1.cell? ⟨b, 2, none⟩ = some (.int .i64 l) := q2
        have x2 := free_of g1.cells 2
        have h5 : RefIs (w1.setCell ⟨b, 2, none⟩ (.int .i64 (l - 1024))) b tb sb ov3 { Enc.put { e with low := l } 1 with low := l - 1024 } := g1.put 2 (.int .i64 (l - 1024)) { Enc.put { e with low := l } 1 with low := l - 1024 } rfl rfl rfl
        rw [← Hh2.out] at h5
        have H5 := Lib.hid h5
        have H6 := Lib.hid (((H2.out.trans g2).set 2 (.int .i64 (l - 1024))).go sb)
        clear g1 g2 q2 h5
        go_wp2
        go_ret
        rw [Hby.out, Hm.out]
        exact ⟨rfl, ov3, H5.out, H6.out⟩
      · rw [if_neg k1] at hh
        by_cases k2 : l < 512
        · rw [if_pos k2] at hh
          have Hh2 := Lib.hid hh
          clear hh
          go_wp2_with fail
          refine (ref_put b tb sb ov { e with low := l } 0 wq H1.out (.inl rfl) (Hcost.out l)).mono ?_
          rintro r w1 ⟨rfl, ov3, g1, g2⟩
          rw [← Hh2.out] at g1
          have H5 := Lib.hid g1
          have H6 := Lib.hid ((H2.out.trans g2).go sb)
          clear g1 g2
          go_wp2
          go_ret
          rw [Hby.out, Hm.out]
          exact ⟨rfl, ov3, H5.out, H6.out⟩
        · rw [if_neg k2] at hh
          have Hh2 := Lib.hid hh
          clear hh
          have h0 : RefIs ((wq.setCell ⟨b, 2, none⟩ (.int .i64 (l - 512))).setCell ⟨b, 4, none⟩ (.int .i64 ((e.outs : Int) + 1))) b tb sb ov { e with low := l - 512, outs := e.outs + 1 } :=
            RefIs.put (e := { e with low := l - 512 }) (H1.out.put 2 _ _ rfl rfl rfl) 4 _ _ rfl rfl rfl
          rw [← Hh2.out] at h0
          have H5 := Lib.hid h0
          have H6 := Lib.hid (((H2.out.set 2 (.int .i64 (l - 512))).set 4 (.int .i64 ((e.outs : Int) + 1))).go sb)
          clear h0
          go_wp2
          go_ret
          rw [Hby.out, Hm.out]
          exact ⟨rfl, ov, H5.out, H6.out⟩
  · have hcf : e.may x = false := by simpa using hm
    have hby : e.bypass x = e := by unfold Enc.bypass; rw [if_neg hm]
    rw [hcf, hby]
    have hall := ref_guard e x hcf
    obtain ⟨-, -, -, -, -, -, c6, -⟩ := he.cellsAt
    obtain ⟨o, ho⟩ : ∃ o, o = e.over := ⟨_, rfl⟩
    rw [← ho] at c6 hall
    have He := Lib.hid he
    clear he hm hcf hby ho hg hn
    go_enter Tryz.func29, Tryz.ntmps29
    by_cases k3 : x < 0
    · go_wp2 <;> go_ret <;> exact ⟨rfl, ov, He.out, EncGo.refl _ _ _ _⟩
    · by_cases k4 : 1 < x
      · go_wp2 <;> go_ret <;> exact ⟨rfl, ov, He.out, EncGo.refl _ _ _ _⟩
      · obtain rfl : o = true := by rcases hall with h | h | h <;> first | omega | exact h
        go_wp2 <;> go_ret <;> exact ⟨rfl, ov, He.out, EncGo.refl _ _ _ _⟩
end Go.Proofs.YtgmnkihldlajcaaGreatDoor

/-
  The walks over the document's own encoder: Terminate; bits packed.
-/
namespace Go.Proofs.YtgmnkihldlajcaaGreatDoor
open Go.RowKit

/-- Two bits more behind the bits. -/
theorem RefIs.pushed2 {w w2 : World} {b tb sb g cap : Nat} {bv : Value} {e : Enc} (x y : Int) (h : RefIs w b tb sb bv e)
    (hp : Pushed w 0 5 1 bv (e.bits.length + 2) (bytesOf e.bits ++ [.int .u8 x, .int .u8 y]) (.slice (some ⟨g, 0, none⟩) (e.bits.length + 2) cap) w2) :
    w2.frozen? ⟨b, 1, none⟩ = false ∧ w2.cell? ⟨b, 1, none⟩ = some bv ∧ RefIs (w2.setCell ⟨b, 1, none⟩ (.slice (some ⟨g, 0, none⟩) (e.bits.length + 2) cap)) b tb sb (.slice (some ⟨g, 0, none⟩) (e.bits.length + 2) cap) ((e.bit x).bit y) ∧
      EncTo w (w2.setCell ⟨b, 1, none⟩ (.slice (some ⟨g, 0, none⟩) (e.bits.length + 2) cap)) b bv (.slice (some ⟨g, 0, none⟩) (e.bits.length + 2) cap) := by
  have hk : ∀ k, k < w.heap.size → bv.ownBlock ≠ some k → w2.heap[k]? = w.heap[k]? := fun k hk hr => hp.2.1.block k hk (fun e => hr e.symm)
  have hob : ∀ k cs t, w.heap[k]? = some (.cells cs t (0, 0)) → t ≠ 5 → bv.ownBlock ≠ some k := fun k cs t h1 h2 h3 => by
    obtain ⟨cur, hc⟩ := ownsRow_block h.out h3
    exact block_type h1 hc h2 rfl
  have hcb := (hk b (lt_of_block h.cells) (hob b _ _ h.cells (by decide))).trans h.cells
  have htb := (hk tb (lt_of_block h.tab) (hob tb _ _ h.tab (by decide))).trans h.tab
  have hsb := (hk sb (lt_of_block h.sts) (hob sb _ _ h.sts (by decide))).trans h.sts
  have hbits : bytesOf e.bits ++ [Value.int .u8 x, .int .u8 y] = bytesOf ((e.bit x).bit y).bits := by simp [bytesOf, Enc.bit]
  have ho2 := hp.1
  rw [hbits] at ho2
  obtain ⟨cur, hgb⟩ := ownsRow_block ho2 rfl
  have hg : g ≠ b := block_type hgb hcb (by decide)
  have hnew : bv.ownBlock = some g ∨ w.heap.size ≤ g := by
    obtain ⟨g2, cap2, h1, h2⟩ := hp.2.2
    simp only [Value.slice.injEq, Option.some.injEq, Addr.mk.injEq] at h1
    obtain ⟨⟨rfl, -⟩, -, -⟩ := h1
    exact h2
  refine ⟨free_of hcb 1, by rw [cells_of hcb]; rfl, ⟨?_, heap_set_other _ htb (block_type htb hcb (by decide)), heap_set_other _ hsb (block_type hsb hcb (by decide)), h.apart, ?_⟩, ?_⟩
  · rw [heap_set_same _ hcb]
    rfl
  · have hl : ((e.bit x).bit y).bits.length = e.bits.length + 2 := by simp [Enc.bit]
    rw [hl]
    exact ownsRow_of_block ho2 (fun k hk => by
      simp [Value.ownBlock] at hk
      subst hk
      exact Below.heap_setCell _ _ _ _ hg)
  · refine ⟨((Only.refl _ _).grown hp.2.1 (fun k hk => .inl (by simp [hk]))).setCell (.inl (by simp)) _, fun g' hg' => ?_⟩
    simp [Value.ownBlock] at hg'
    subst hg'
    exact hnew
theorem two_cells (w : World) (x y : Value) (t : TypeId) : ∀ j u, [x, y][j]? = some u → (w.alloc (.cells #[x, y] t)).cell? ((⟨w.heap.size, 0, none⟩ : Addr).add j) = some u := by
  intro j u hj
  match j, hj with
  | 0, hj => simp at hj; subst hj; simp [Addr.add]
  | 1, hj => simp at hj; subst hj; simp [Addr.add]
theorem i64_or1_all : ∀ y : Nat, y < 4 → bits .or .i64 (y : Int) 1 = 2 * ((y : Int) / 2) + 1 := by decide +kernel
theorem i64_or1 (y : Int) (h0 : 0 ≤ y) (h1 : y < 4) : bits .or .i64 y 1 = 2 * (y / 2) + 1 := by
  obtain ⟨y, rfl⟩ := Int.eq_ofNat_of_zero_le h0
  exact i64_or1_all y (by omega)

/-- So many bits packed, in a row of so many bytes. -/
def packTo (bs : List Int) (n k : Nat) : List Int := (List.range n).map fun i => byteAt (bs.take k) i
theorem packTo_zero (bs : List Int) (n : Nat) : packTo bs n 0 = List.replicate n 0 := by
  unfold packTo
  apply List.ext_getElem?
  intro i
  by_cases h : i < n <;> simp [h, byteAt]
theorem packTo_full (bs : List Int) (n : Nat) (h : n = (bs.length + 7) / 8) : packTo bs n bs.length = packed bs := by
  unfold packTo packed; rw [List.take_length, h]
theorem packTo_length (bs : List Int) (n k : Nat) : (packTo bs n k).length = n := by simp [packTo]
theorem packTo_at (bs : List Int) (n k i : Nat) (h : i < n) : (packTo bs n k).getD i 0 = byteAt (bs.take k) i := by simp [packTo, List.getD, h]
theorem packTo_step (bs : List Int) (n k : Nat) (h : k < bs.length) (v : Int) (hv : v = byteAt (bs.take k) (k / 8) + bs.getD k 0 * place k) : (packTo bs n k).set (k / 8) v = packTo bs n (k + 1) := by
  have htk : bs.take (k + 1) = bs.take k ++ [bs.getD k 0] := by rw [List.take_add_one, List.getElem?_eq_getElem h]; simp [List.getD, List.getElem?_eq_getElem h]
  have hl : (bs.take k).length = k := by simp; omega
  unfold packTo
  apply List.ext_getElem?
  intro i
  rw [htk]
  by_cases hi : i < n
  · by_cases hk : k / 8 = i
    · subst hk
      simp only [List.getElem?_set, List.length_map, List.length_range, hi, if_true, List.getElem?_map, List.getElem?_range hi, Option.map_some, byteAt_snoc, hl]
      rw [hv]
    · simp only [List.getElem?_set, hk, if_false, List.getElem?_map, List.getElem?_range hi, Option.map_some, byteAt_snoc, hl]
      rw [if_neg (by omega)]
      simp
  · simp [hi]
theorem packTo_same (bs : List Int) (n k : Nat) (h : k < bs.length) (hv : bs.getD k 0 = 0) : packTo bs n (k + 1) = packTo bs n k := by
  have htk : bs.take (k + 1) = bs.take k ++ [0] := by rw [← hv, List.take_add_one, List.getElem?_eq_getElem h]; simp [List.getD, List.getElem?_eq_getElem h]
  unfold packTo
  apply List.map_congr_left
  intro i _
  rw [htk, byteAt_snoc]
  split <;> omega
def rowU8 (xs : List Int) : Array Value := (xs.map (Value.int .u8)).toArray
theorem rowU8_at (xs : List Int) (i : Nat) (h : i < xs.length) : (rowU8 xs)[i]? = some (.int .u8 (xs.getD i 0)) := by simp [rowU8, h, List.getD]
theorem rowU8_setIf (xs : List Int) (i : Nat) (v : Int) : (rowU8 xs).setIfInBounds i (.int .u8 v) = rowU8 (xs.set i v) := by
  unfold rowU8; rw [List.map_set]; simp
theorem rowU8_replicate (n : Nat) : zrow n (.int .u8 0) = rowU8 (List.replicate n 0) := by simp [rowU8, zrow]
theorem u8_or_all : ∀ r : Nat, r < 8 → ∀ y : Nat, y < 256 → (y : Int) % (2 * place r) = 0 → bits .or .u8 (y : Int) (128 / 2 ^ r) = (y : Int) + place r := by decide +kernel
theorem u8_or (r : Nat) (y : Int) (hr : r < 8) (h0 : 0 ≤ y) (h1 : y ≤ 255) (hm : y % (2 * place r) = 0) : bits .or .u8 y (128 / 2 ^ r) = y + place r := by
  obtain ⟨y, rfl⟩ := Int.eq_ofNat_of_zero_le h0
  exact u8_or_all r hr y (by omega) hm

set_option maxRecDepth 100000 in
set_option maxHeartbeats 1600000 in
theorem ref_pack (v : Value) (bs : List Int) (w : World) (hv : w.ownsRow 0 5 1 v bs.length (bytesOf bs)) (hb : ∀ y ∈ bs, y = 0 ∨ y = 1) (hl : bs.length ≤ 1000000000) :
    Calls Tryz.prog 30 #[v] w fun r w' => r = .returned (.string (strOfNums (packed bs))) ∧ Only [] w w' := by
  have hcell : ∀ i, i < bs.length → ∃ g cap, v = .slice (some ⟨g, 0, none⟩) bs.length cap ∧ w.cell? ⟨g, i, none⟩ = some (.int .u8 (bs.getD i 0)) := by
    intro i hi
    obtain ⟨g, cap, cur, h1, _, _, h2⟩ := owned_shape hv (by omega)
    refine ⟨g, cap, h1, ?_⟩
    rw [h2 i hi]
    simp [bytesOf, List.getD, List.getElem?_eq_getElem hi]
  have hvs : ∃ ao cap, v = .slice ao bs.length cap := by
    rcases hv.2 with ⟨rfl, h⟩ | ⟨g, cap, cur, rfl, _⟩
    · rw [h]; exact ⟨_, _, rfl⟩
    · exact ⟨_, _, rfl⟩
  obtain ⟨ao, cap, rfl⟩ := hvs
  obtain ⟨n, hn⟩ : ∃ n, n = (bs.length + 7) / 8 := ⟨_, rfl⟩
  have hni : ((bs.length : Int) + 7) / 8 = (n : Int) := by omega
  have Hcell := Lib.hid hcell
  have Hb := Lib.hid hb
  have Hn := Lib.hid hn
  have hn1 : n ≤ 1000000000 := by omega
  clear hcell hv hb hn
  go_enter Tryz.func30, Tryz.ntmps30
  go_wp2_with (at_make; refine wpList_make1 rfl _ _ rfl elt8 rfl n rfl rfl (by first | rfl | exact hni) (by first | rfl | exact hni) (by decide) (by omega) ?_)
  intro w1 hb1 ho1 hsz
  rw [rowU8_replicate] at hb1
  have Hb1 := Lib.hid hb1
  have Ho1 := Lib.hid ho1
  clear hb1 ho1 hsz hni
  go_wp2
  go_loopw [4] (fun i wr => ∃ k : Nat, k ≤ bs.length ∧ i = .int .i64 k ∧ wr.heap[w.heap.size]? = some (.cells (rowU8 (packTo bs n k)) 5 (0, 0)) ∧ Only [] w wr) (fun i _ => bs.length - (intOf i).toNat)
  case atStart => exact ⟨0, Nat.zero_le _, rfl, by rw [packTo_zero]; exact Hb1.out, Ho1.out⟩
  case round =>
    obtain ⟨k, hk, rfl, hblk, hon⟩ := hrel
    by_cases hlt : k < bs.length
    · obtain ⟨g, cap', he, hck⟩ := Hcell.out k hlt
      simp only [Value.slice.injEq] at he
      obtain ⟨rfl, -, -⟩ := he
      have c1 := hon.cell hck (by simp)
      obtain ⟨q, r, hqr, hr⟩ : ∃ q r : Nat, k = 8 * q + r ∧ r < 8 := ⟨k / 8, k % 8, by omega, by omega⟩
      have hqn : q < n := by have := Hn.out; omega
      have c2 : wr.cell? ⟨w.heap.size, q, none⟩ = some (.int .u8 (byteAt (bs.take k) q)) := by
        rw [cells_of hblk, rowU8_at _ _ (by rw [packTo_length]; exact hqn), packTo_at _ _ _ _ hqn]
      have z2 := free_of hblk q
      have hyr := byteAt_range (bs.take k) (fun b hb => Hb.out b (List.mem_of_mem_take hb)) q
      have hym := byteAt_mod (bs.take k)
      have htl : (bs.take k).length = k := by simp; omega
      rw [htl, show k / 8 = q by omega, show place k = place r by rw [hqr, place_mod]] at hym
      obtain ⟨y, hy⟩ : ∃ y, y = byteAt (bs.take k) q := ⟨_, rfl⟩
      obtain ⟨x, hx⟩ : ∃ x, x = bs.getD k 0 := ⟨_, rfl⟩
      have hxb := bit_getD bs Hb.out k
      rw [← hy] at c2 hyr hym
      rw [← hx] at c1 hxb
      have hor := u8_or r y hr hyr.1 hyr.2 hym
      have hstep := packTo_step bs n k hlt
      rw [← hx, show k / 8 = q by omega, ← hy, show place k = place r by rw [hqr, place_mod]] at hstep
      have hsame := packTo_same bs n k hlt
      rw [← hx] at hsame
      have hk1 : (k : Int) / 8 = (q : Int) := by omega
      have hk2 : (k : Int) % 8 = (r : Int) := by omega
      have hkd : Int.tdiv (k : Int) 8 = (q : Int) := by rw [Int.tdiv_eq_ediv_of_nonneg (by omega)]; omega
      have hkm : Int.tmod (k : Int) 8 = (r : Int) := by rw [Int.tmod_eq_emod_of_nonneg (by omega)]; omega
      have Hstep := Lib.hid hstep
      have Hsame := Lib.hid hsame
      have Hblk := Lib.hid hblk
      have Hon := Lib.hid hon
      have Hqr := Lib.hid hqr
      have Hor := Lib.hid hor
      clear hck hym hyr hy hx hstep hsame hblk hon htl hqr hor
      rcases hxb with rfl | rfl
      · go_wp2
        go_roundw
        case rel => exact ⟨k + 1, by omega, by go_num, by rw [Hsame.out rfl]; exact Hblk.out, Hon.out⟩
        case measure => simp [intOf] <;> omega
      · go_wp2
        go_region
        go_wp2
        go_roundw
        case rel =>
          refine ⟨k + 1, by omega, by go_num, ?_, (Hon.out.setCell (.inr (by simp)) _).drew⟩
          show (wr.setCell ⟨w.heap.size, q, none⟩ _).heap[w.heap.size]? = _
          rw [heap_set_same _ Hblk.out]
          try rw [Hor.out]
          rw [rowU8_setIf, ← Hstep.out (y + place r) (by omega)]
          try rfl
        case measure => simp [intOf] <;> omega
    · obtain rfl : k = bs.length := by omega
      rw [packTo_full bs n Hn.out] at hblk
      have hln : (packed bs).length = n := by rw [packed_length]; exact Hn.out.symm
      have hcv := run_convert_bytes_arg (P := Tryz.prog) wr 39 5 Tryz.underlying39 Tryz.underlying5 w.heap.size 0 n n (packed bs) hln (fun i hi => by rw [Nat.zero_add, cells_of hblk]; exact rowU8_at _ _ (by omega)) 9 Tryz.underlying9
      have Hon := Lib.hid hon
      clear hblk hon hln
      go_wp2
      go_ret
      exact ⟨rfl, Hon.out⟩
theorem ref_bytes (b tb sb : Nat) (ov : Value) (e : Enc) (w : World) (he : RefIs w b tb sb ov e) (hb : ∀ y ∈ e.bits, y = 0 ∨ y = 1) (hl : e.bits.length ≤ 1000000000) :
    Calls Tryz.prog 14 #[.pointer (some ⟨b, 0, none⟩)] w fun r w' => r = .returned (.string (strOfNums (packed e.bits))) ∧ Only [] w w' := by
  obtain ⟨-, c1, -, -, -, -, -, -⟩ := he.cellsAt
  have Hp := Lib.hid (ref_pack ov e.bits w he.out hb hl)
  clear he hb hl
  go_enter Tryz.func14, Tryz.ntmps14
  go_wp2_with fail
  refine Hp.out.mono ?_
  rintro r w1 ⟨rfl, h1⟩
  have H1 := Lib.hid h1
  clear h1
  go_wp2
  go_ret
  exact ⟨rfl, H1.out⟩
end Go.Proofs.YtgmnkihldlajcaaGreatDoor
