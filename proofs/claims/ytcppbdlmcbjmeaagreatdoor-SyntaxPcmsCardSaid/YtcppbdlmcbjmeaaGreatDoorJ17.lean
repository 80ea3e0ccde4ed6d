/-
  The walk over a macroblock's samples. What the walk over a macroblock is given and leaves. The walk over a macroblock of a slice of type I: kind 2.
-/
import Derived.Test.YtcppbdlmcbjmeaaGreatDoorJ16
import Derived.Test.YtcppbdlmcbjmeaaGreatDoorJ02
import Derived.StillTailTactics
import Derived.Test.YtcppbdlmcbjmeaaGreatDoorJ14
import Derived.Test.YtcppbdlmcbjmeaaGreatDoorJ15
namespace Go.Proofs.YtcppbdlmcbjmeaaGreatDoor
open Go.RowKit

def pcmAsk (ps : List Int) : List Ask := ps.map Ask.raw
/-- Samples in memory: the first 384 cells of a block. -/
def PcmIs (w : World) (pb : Nat) (q : Nat → Int) : Prop := ∃ cur : Array Value, w.heap[pb]? = some (.cells cur 5 (0, 0)) ∧ ∀ i, i < 384 → cur[i]? = some (.int .u8 (q i)) ∧ 0 ≤ q i ∧ q i ≤ 255
theorem PcmIs.cell {w : World} {pb : Nat} {q : Nat → Int} (h : PcmIs w pb q) (i : Nat) (hi : i < 384) : w.cell? ⟨pb, i, none⟩ = some (.int .u8 (q i)) := by
  obtain ⟨cur, h1, h2⟩ := h
  rw [cells_of h1]
  exact (h2 i hi).1
theorem PcmIs.free {w : World} {pb : Nat} {q : Nat → Int} (h : PcmIs w pb q) (i : Nat) : w.frozen? ⟨pb, i, none⟩ = false := by
  obtain ⟨cur, h1, h2⟩ := h
  exact free_of h1 i
theorem PcmIs.only {w w' : World} {pb : Nat} {q : Nat → Int} {S : List Nat} (h : PcmIs w pb q) (ho : Only S w w') (hp : pb ∉ S) : PcmIs w' pb q := by
  obtain ⟨cur, h1, h2⟩ := h
  exact ⟨cur, ho.heap h1 hp, h2⟩
theorem PcmIs.range {w : World} {pb : Nat} {q : Nat → Int} (h : PcmIs w pb q) (i : Nat) (hi : i < 384) : 0 ≤ q i ∧ q i ≤ 255 := by
  obtain ⟨cur, h1, h2⟩ := h
  exact (h2 i hi).2
theorem PcmIs.set {w : World} {pb : Nat} {q : Nat → Int} (h : PcmIs w pb q) (i : Nat) (x : Int) (h0 : 0 ≤ x ∧ x ≤ 255) : PcmIs (w.setCell ⟨pb, i, none⟩ (.int .u8 x)) pb (fun j => if j = i then x else q j) := by
  obtain ⟨cur, h1, h2⟩ := h
  refine ⟨_, heap_set_same _ h1, fun j hj => ?_⟩
  have hsz : j < cur.size := by
    apply Classical.byContradiction
    intro e
    have := (h2 j hj).1
    rw [Array.getElem?_eq_none (by omega)] at this
    cases this
  dsimp only
  by_cases hji : j = i
  · subst hji
    rw [if_pos rfl]
    exact ⟨by rw [Array.getElem?_setIfInBounds_self_of_lt hsz], h0⟩
  · rw [if_neg hji]
    refine ⟨?_, (h2 j hj).2⟩
    rw [Array.getElem?_setIfInBounds_ne (Ne.symm hji)]
    exact (h2 j hj).1
theorem PcmIs.congr {w : World} {pb : Nat} {q p : Nat → Int} (h : PcmIs w pb q) (e : ∀ i, i < 384 → q i = p i) : PcmIs w pb p := by
  obtain ⟨cur, h1, h2⟩ := h
  exact ⟨cur, h1, fun i hi => by rw [← e i hi]; exact h2 i hi⟩
theorem PcmIs.lt {w : World} {pb : Nat} {q : Nat → Int} (h : PcmIs w pb q) : pb < w.heap.size := by
  obtain ⟨cur, h1, h2⟩ := h
  exact lt_of_block h1
theorem wp_make1 {P : Program} {w : World} {o : Oper} {a : Act} {K : Act → World → Prop} {Q : Exit → Act → World → Prop} (l c : Operand) {t e : TypeId}
    (hop : o.op = Op.makeSlice t l c) {z : Value} {bytes : Nat} (E : Elt P t e z 1 bytes) (hz1 : z.cells = #[z]) {kl kc : IntKind} {L C : Int} (n : Nat) (hl : a.eval l = .int kl L) (hc : a.eval c = .int kc C)
    (hL : L = (n : Int)) (hC : C = (n : Int)) (hb : bytes * n ≤ 281474976710656) (hn : n ≤ 281474976710656)
    (h : K (a.put o.dst (.slice (some ⟨w.heap.size, 0, none⟩) n n)) (w.alloc (.cells (zrow n z) e))) : o.wp P a w K Q := by
  obtain ⟨i, hi, hz, hs, hbt⟩ := info_parts E.hi
  subst hL hC
  have hbytes : (i.bytes : Int) * (n : Int) ≤ 281474976710656 := by
    have h2 : ((i.bytes * n : Nat) : Int) ≤ 281474976710656 := by rw [hbt]; omega
    simpa using h2
  have hr := run_make (P := P) w t e i z E.ht hi hz kl kc n n (by omega) (Int.le_refl _) hbytes (by omega)
  have hcells : (madeCells z.cells ((n : Int).toNat * i.size)) = zrow n z := by
    rw [hz1, hs]
    apply Array.ext'
    rw [toList_madeCells_one]
    simp [zrow]
  rw [hcells] at hr
  simp only [Int.toNat_natCast] at hr
  unfold Oper.wp
  simp [execOp, hop, hl, hc, hr, Result.andThen]
  exact h
/-- Something else was done aside; the scene starts anew. -/
theorem Scene.aside {c : Cod} {F0 F Y : List Nat} {w0 w w' : World} {kb sb mb n : Nat} {S X : Nat → Value} {D : List Value} {r : List Ask} (h : Scene c F0 w0 w kb sb mb S X n D F r) (hc : c.Ok) (ho : Only Y w w') (hY : ∀ i ∈ Y, i ≠ kb ∧ i ≠ sb ∧ i ≠ mb ∧ i ∉ F ∧ (S 23).ownBlock ≠ some i) : Scene c F w' w' kb sb mb S X n D F r where
  k := h.k.only ho (fun e => (hY _ e).1 rfl)
  s := h.s.only ho (fun e => (hY _ e).2.1 rfl)
  m := h.m.only ho (fun e => (hY _ e).2.2.1 rfl)
  a := ownsRow_of_block h.a fun g hg => by
    obtain ⟨cur, hc⟩ := ownsRow_block h.a hg
    exact ho.block g (lt_of_block hc) (fun e => (hY _ e).2.2.2.2 hg)
  c := hc.keep F r w w' Y h.c ho (fun i hi e => (hY _ e).2.2.2.1 hi)
  nk := h.nk
  ns := h.ns
  nm := h.nm
  na := h.na
  o := Only.refl _ _
  n := fun _ hi => .inl hi
  l := ⟨Nat.lt_of_lt_of_le (lt_of_block h.k) ho.size, Nat.lt_of_lt_of_le h.s.lt ho.size, Nat.lt_of_lt_of_le h.m.lt ho.size⟩
theorem PcmIs.ne {c : Cod} {F0 F : List Nat} {w0 w : World} {kb sb mb n pb : Nat} {S X : Nat → Value} {D : List Value} {r : List Ask} {q : Nat → Int} (h : Scene c F0 w0 w kb sb mb S X n D F r) (k : PcmIs w pb q) : pb ≠ kb ∧ pb ≠ sb ∧ pb ≠ mb ∧ (S 23).ownBlock ≠ some pb := by
  obtain ⟨cur, h1, -⟩ := k
  refine ⟨?_, block_type2 h1 h.s (by decide), block_type2 h1 h.m (by decide), fun hg => ?_⟩
  · rintro rfl
    have h2 := h.k
    unfold WkIn at h2
    rw [h1] at h2; simp at h2
  · obtain ⟨cur2, hc⟩ := ownsRow_block h.a hg
    rw [h1] at hc
    simp at hc
theorem zrow_at {n i : Nat} (z : Value) (h : i < n) : (zrow n z)[i]? = some z := by simp [zrow, h]
theorem pcmAsk_step (ps : Nat → Int) {i : Nat} (hi : i < 384) : pcmAsk ((List.range' i (384 - i)).map ps) = .raw (ps i) :: pcmAsk ((List.range' (i + 1) (384 - (i + 1))).map ps) := by
  rw [show 384 - i = (384 - (i + 1)) + 1 by omega, List.range'_succ]
  rfl
set_option maxRecDepth 100000 in
set_option maxHeartbeats 3200000 in
theorem wk_pcm {c : Cod} {F0 F : List Nat} {w0 w : World} {kb sb mb n : Nat} {S X : Nat → Value} {D : List Value} {r : List Ask} {ps : Nat → Int} (hc : c.Ok) (h : Scene c F0 w0 w kb sb mb S X n D F (pcmAsk ((List.range 384).map ps) ++ r))
    (hX : (c.wr = false ∧ X 482 = .slice none 0 0) ∨ ∃ (pb cap : Nat) (q : Nat → Int), X 482 = .slice (some ⟨pb, 0, none⟩) 384 cap ∧ PcmIs w pb q ∧ pb ∉ F ∧ (c.wr = true → ∀ i, i < 384 → q i = ps i))
    (hp : ∀ i, i < 384 → 0 ≤ ps i ∧ ps i ≤ 255) :
    Calls Tryz.prog 70 #[.pointer (some ⟨kb, 0, none⟩)] w fun e w' => e = .returned (.tuple #[]) ∧ ∃ (F' : List Nat) (pb cap : Nat), Scene c F' w' w' kb sb mb S (upd X 482 (.slice (some ⟨pb, 0, none⟩) 384 cap)) n D F' r ∧ PcmIs w' pb ps ∧ pb ∉ F' ∧
      Only (sb :: mb :: pb :: F) w w' ∧ (∀ i ∈ F', i ∈ F ∨ w.heap.size ≤ i) ∧ (w.heap.size ≤ pb ∨ ∃ cap', X 482 = .slice (some ⟨pb, 0, none⟩) 384 cap') := by
  have k2 := h.k2
  have H := Lib.hid h
  have HC := Lib.hid hc
  have Hp := Lib.hid hp
  have mR := hc.mR
  have eR := hc.eR
  have c482 : w.cell? ⟨mb, 482, none⟩ = some (X 482) := h.m.cell 482 (by decide)
  have z482 := h.m.free 482
  clear h hc hp
  rcases hX with ⟨hwr, hX⟩ | ⟨pb, cap, q, hX, hq, hpF, hwr⟩
  · rw [hX] at c482
    have HX := Lib.hid hX
    clear hX
    go_enter Tryz.func70, Tryz.ntmps70
    go_wp2
    refine wp_region_L (by kernel_rfl) (fun w' => w'.cell? ⟨kb, 2, none⟩ = some (.pointer (some ⟨mb, 0, none⟩))) 7 ?_
    have hS0 : (fun w' => w'.cell? ⟨kb, 2, none⟩ = some (.pointer (some ⟨mb, 0, none⟩))) w.drew := k2
    refine AnyL.take 0 (v := ?_) rfl (by kernel_rfl) (by kernel_rfl) (by kernel_rfl) (by kernel_rfl) (fun _ _ _ h => h) (by assumption) (Or.inl ⟨by rfl, ?_⟩) ?_
    rotate_left
    · (intro w' hSw; (try dsimp only at hSw); go_simp; try (with_reducible rfl))
    try simp only [Act.put, List.setIfInBounds_toArray, List.set_cons_zero, List.set_cons_succ]
    refine AnyL.take 1 (v := ?_) rfl (by kernel_rfl) (by kernel_rfl) (by kernel_rfl) (by kernel_rfl) (fun _ _ _ h => h) (by assumption) (Or.inl ⟨by rfl, ?_⟩) ?_
    rotate_left
    · (intro w' hSw; (try dsimp only at hSw); go_simp; try (with_reducible rfl))
    try simp only [Act.put, List.setIfInBounds_toArray, List.set_cons_zero, List.set_cons_succ]
    refine AnyL.take 2 (v := ?_) rfl (by kernel_rfl) (by kernel_rfl) (by kernel_rfl) (by kernel_rfl) (fun _ _ _ h => h) (by assumption) (Or.inl ⟨by rfl, ?_⟩) ?_
    rotate_left
    · (intro w' hSw; (try dsimp only at hSw); go_simp; try (with_reducible rfl))
    try simp only [Act.put, List.setIfInBounds_toArray, List.set_cons_zero, List.set_cons_succ]
    refine AnyL.take 3 (v := ?_) rfl (by kernel_rfl) (by kernel_rfl) (by kernel_rfl) (by kernel_rfl) (fun _ _ _ h => h) (by assumption) (Or.inl ⟨by rfl, ?_⟩) ?_
    rotate_left
    · (intro w' hSw; (try dsimp only at hSw); go_simp; try (with_reducible rfl))
    try simp only [Act.put, List.setIfInBounds_toArray, List.set_cons_zero, List.set_cons_succ]
    refine AnyL.one 4 (by kernel_rfl) rfl (fun K hK => ?_)
    rw [if_pos (by rfl)]
    refine wp_make1 _ _ rfl elt8 rfl 384 rfl rfl rfl rfl (by decide) (by decide) ?_
    have hg := heap_alloc_at w.drew (.cells (zrow 384 (.int .u8 0)) 5)
    have ho : Only [] w (w.drew.alloc (.cells (zrow 384 (.int .u8 0)) 5)) := (Only.refl [] w).drew.alloc _
    have hS1 : (fun w' => w'.cell? ⟨kb, 2, none⟩ = some (.pointer (some ⟨mb, 0, none⟩))) (w.drew.alloc (.cells (zrow 384 (.int .u8 0)) 5)) := ho.cell k2 (by simp)
    have c482' := ho.cell c482 (by simp)
    have hs := (H.out.drew HC.out).same HC.out ((Only.refl [] w.drew).alloc (.cells (zrow 384 (.int .u8 0)) 5))
    have hdz : w.drew.heap.size = w.heap.size := rfl
    rw [hdz] at hg
    generalize (w.drew.alloc (.cells (zrow 384 (.int .u8 0)) 5)) = wa at *
    have z482' := hs.m.free 482
    have HS := Lib.hid hs
    have Hg := Lib.hid hg
    have Ho := Lib.hid ho
    clear hs hg ho
    refine hK _ _ (fun _ => hS1) (fun hKq => ?_)
    clear hK K hKq
    try simp only [Act.put, List.setIfInBounds_toArray, List.set_cons_zero, List.set_cons_succ]
    refine AnyL.one 5 (by kernel_rfl) rfl (fun K hK => ?_)
    go_simp
    refine hK _ _ (fun _ => hS1) (fun hKq => ?_)
    clear hK K hKq
    try simp only [Act.put, List.setIfInBounds_toArray, List.set_cons_zero, List.set_cons_succ]
    refine AnyL.one 6 (by kernel_rfl) rfl (fun K hK => ?_)
    go_simp
    refine hK _ _ (fun _ => hS1) (fun hKq => ?_)
    clear hK K hKq
    try simp only [Act.put, List.setIfInBounds_toArray, List.set_cons_zero, List.set_cons_succ]
    refine AnyL.one 7 (by kernel_rfl) rfl (fun K hK => ?_)
    go_simp
    refine hK _ _ (fun h => absurd rfl h) (fun hKq => ?_)
    clear hK K hKq
    try simp only [Act.put, List.setIfInBounds_toArray, List.set_cons_zero, List.set_cons_succ]
    refine AnyL.done (by kernel_rfl) ?_ _
    have hs1 := HS.out.setM HC.out 482 (.slice (some ⟨w.heap.size, 0, none⟩) 384 384)
    have hq1 : PcmIs (wa.setCell ⟨mb, 482, none⟩ (.slice (some ⟨w.heap.size, 0, none⟩) 384 384)) w.heap.size (fun _ => 0) := by
      refine ⟨zrow 384 (.int .u8 0), heap_set_other _ Hg.out (by have := H.out.m.lt; omega), fun i hi => ⟨zrow_at _ hi, Int.le_refl _, by show (0 : Int) ≤ 255; decide⟩⟩
    have o1 : Only (sb :: mb :: w.heap.size :: F) w (wa.setCell ⟨mb, 482, none⟩ (.slice (some ⟨w.heap.size, 0, none⟩) 384 384)) := (Ho.out.mono (T := sb :: mb :: w.heap.size :: F) (by simp)).setCell (.inl (by simp)) _
    have hpf : w.heap.size ∉ F := fun hm => by have := HC.out.low F _ _ H.out.c _ hm; omega
    generalize wa.setCell ⟨mb, 482, none⟩ (.slice (some ⟨w.heap.size, 0, none⟩) 384 384) = w1 at *
    obtain ⟨pb, hpb⟩ : ∃ pb, pb = w.heap.size := ⟨_, rfl⟩
    rw [← hpb] at hs1 hq1 o1 hpf ⊢
    have hnew : Hid (w.heap.size ≤ pb ∨ ∃ cap', X 482 = .slice (some ⟨pb, 0, none⟩) 384 cap') := Lib.hid (.inl (by omega))
    obtain ⟨cap, hcap⟩ : ∃ cap, cap = 384 := ⟨_, rfl⟩
    have hs1 : Scene c F w1 w1 kb sb mb S (upd X 482 (.slice (some ⟨pb, 0, none⟩) 384 cap)) n D F (pcmAsk ((List.range 384).map ps) ++ r) := by rw [hcap]; exact hs1.here
    obtain ⟨q, hqe⟩ : ∃ q : Nat → Int, q = fun _ => 0 := ⟨_, rfl⟩
    rw [← hqe] at hq1
    have hwq : c.wr = true → ∀ i, i < 384 → q i = ps i := fun h => by rw [hwr] at h; cases h
    have Hs1 := Lib.hid hs1
    have Hq1 := Lib.hid hq1
    have Ho1 := Lib.hid o1
    have Hpf := Lib.hid hpf
    have Hnew := Lib.hid hnew.out
    have Hwq := Lib.hid hwq
    have k2 := hs1.k2
    have c482 : w1.cell? ⟨mb, 482, none⟩ = some (.slice (some ⟨pb, 0, none⟩) 384 cap) := by rw [hs1.m.cell 482 (by decide), upd_same]
    clear hs1 hq1 o1 hpf hnew hwq hpb hcap hqe hS1 c482' z482' z482 hdz HS Hg Ho hS0
    go_wp2
    go_loopw [28] (fun iv wr => ∃ (i : Nat) (F1 : List Nat) (q2 : Nat → Int), i ≤ 384 ∧ iv = .int .i64 i ∧ Scene c F1 wr wr kb sb mb S (upd X 482 (.slice (some ⟨pb, 0, none⟩) 384 cap)) n D F1 (pcmAsk ((List.range' i (384 - i)).map ps) ++ r) ∧ PcmIs wr pb q2 ∧ Hid (pb ∉ F1) ∧ Hid (∀ j, j < i → q2 j = ps j) ∧ Hid (c.wr = true → ∀ j, j < 384 → q2 j = ps j) ∧ Hid (Only (sb :: mb :: pb :: F) w wr) ∧ Hid (∀ z ∈ F1, z ∈ F ∨ w.heap.size ≤ z)) (fun iv _ => 384 - (intOf iv).toNat)
    case atStart => exact ⟨0, F, q, Nat.zero_le _, rfl, by rw [← List.range_eq_range']; exact Hs1.out, Hq1.out, Hpf, Lib.hid (fun j hj => absurd hj (Nat.not_lt_zero j)), Hwq, Ho1, Lib.hid (fun z hz => .inl hz)⟩
    case round =>
      clear c482 k2
      obtain ⟨i, F1, q2, hi, rfl, hs, hq, Hpf, hlow, hwq2, honly, hF1⟩ := hrel
      by_cases hlt : i < 384
      · rw [pcmAsk_step ps hlt] at hs
        have k1 := hs.k1
        have k2 := hs.k2
        have c482 : wr.cell? ⟨mb, 482, none⟩ = some (.slice (some ⟨pb, 0, none⟩) 384 cap) := by rw [hs.m.cell 482 (by decide), upd_same]
        have cq := hq.cell i hlt
        have hqr := hq.range i hlt
        have hne := hq.ne hs
        have hpsm : pb ≠ sb ∧ pb ≠ mb := ⟨hne.2.1, hne.2.2.1⟩
        have hwq : Hid (c.wr = true → q2 i = ps i) := Lib.hid (fun h => hwq2.out h i hlt)
        have Hs := Lib.hid hs
        have HQ := Lib.hid hq
        have Hne := Lib.hid hne
        clear hs hq hne
        go_wp2_with fail
        have hli : (i : Int) < 384 := by omega
        refine wp_region_L (by kernel_rfl) (fun w' => w'.cell? ⟨kb, 1, none⟩ = some (.iface c.T c.pv) ∧ w'.cell? ⟨kb, 2, none⟩ = some (.pointer (some ⟨mb, 0, none⟩)) ∧ w'.cell? ⟨mb, 482, none⟩ = some (.slice (some ⟨pb, 0, none⟩) 384 cap)) 15 ?_
        have hS0 : (fun w' => w'.cell? ⟨kb, 1, none⟩ = some (.iface c.T c.pv) ∧ w'.cell? ⟨kb, 2, none⟩ = some (.pointer (some ⟨mb, 0, none⟩)) ∧ w'.cell? ⟨mb, 482, none⟩ = some (.slice (some ⟨pb, 0, none⟩) 384 cap)) wr.drew := ⟨k1, k2, c482⟩
        refine AnyL.take 0 (v := ?_) rfl (by kernel_rfl) (by kernel_rfl) (by kernel_rfl) (by kernel_rfl) (fun _ _ _ h => h) (by assumption) (Or.inl ⟨by rfl, ?_⟩) ?_
        rotate_left
        · (intro w' hSw; (try dsimp only at hSw); go_simp; try (with_reducible rfl))
        try simp only [Act.put, List.setIfInBounds_toArray, List.set_cons_zero, List.set_cons_succ]
        refine AnyL.take 1 (v := ?_) rfl (by kernel_rfl) (by kernel_rfl) (by kernel_rfl) (by kernel_rfl) (fun _ _ _ h => h) (by assumption) (Or.inl ⟨by rfl, ?_⟩) ?_
        rotate_left
        · (intro w' hSw; (try dsimp only at hSw); go_simp; try (with_reducible rfl))
        try simp only [Act.put, List.setIfInBounds_toArray, List.set_cons_zero, List.set_cons_succ]
        refine AnyL.take 2 (v := ?_) rfl (by kernel_rfl) (by kernel_rfl) (by kernel_rfl) (by kernel_rfl) (fun _ _ _ h => h) (by assumption) (Or.inl ⟨by rfl, ?_⟩) ?_
        rotate_left
        · (intro w' hSw; (try dsimp only at hSw); go_simp; try (with_reducible rfl))
        try simp only [Act.put, List.setIfInBounds_toArray, List.set_cons_zero, List.set_cons_succ]
        refine AnyL.take 3 (v := ?_) rfl (by kernel_rfl) (by kernel_rfl) (by kernel_rfl) (by kernel_rfl) (fun _ _ _ h => h) (by assumption) (Or.inl ⟨by rfl, ?_⟩) ?_
        rotate_left
        · (intro w' hSw; (try dsimp only at hSw); go_simp; try (with_reducible rfl))
        try simp only [Act.put, List.setIfInBounds_toArray, List.set_cons_zero, List.set_cons_succ]
        refine AnyL.take 4 (v := ?_) rfl (by kernel_rfl) (by kernel_rfl) (by kernel_rfl) (by kernel_rfl) (fun _ _ _ h => h) (by assumption) (Or.inl ⟨by rfl, ?_⟩) ?_
        rotate_left
        · (intro w' hSw; (try dsimp only at hSw); go_simp; try (with_reducible rfl))
        try simp only [Act.put, List.setIfInBounds_toArray, List.set_cons_zero, List.set_cons_succ]
        refine AnyL.take 5 (v := ?_) rfl (by kernel_rfl) (by kernel_rfl) (by kernel_rfl) (by kernel_rfl) (fun _ _ _ h => h) (by assumption) (Or.inl ⟨by rfl, ?_⟩) ?_
        rotate_left
        · (intro w' hSw; (try dsimp only at hSw); go_simp; try (with_reducible rfl))
        try simp only [Act.put, List.setIfInBounds_toArray, List.set_cons_zero, List.set_cons_succ]
        refine AnyL.take 6 (v := ?_) rfl (by kernel_rfl) (by kernel_rfl) (by kernel_rfl) (by kernel_rfl) (fun _ _ _ h => h) (by assumption) (Or.inl ⟨by rfl, ?_⟩) ?_
        rotate_left
        · (intro w' hSw; (try dsimp only at hSw); go_simp; try (with_reducible rfl))
        try simp only [Act.put, List.setIfInBounds_toArray, List.set_cons_zero, List.set_cons_succ]
        refine AnyL.take 7 (v := ?_) rfl (by kernel_rfl) (by kernel_rfl) (by kernel_rfl) (by kernel_rfl) (fun _ _ _ h => h) (by assumption) (Or.inl ⟨by rfl, ?_⟩) ?_
        rotate_left
        · (intro w' hSw; (try dsimp only at hSw); go_simp; try (with_reducible rfl))
        try simp only [Act.put, List.setIfInBounds_toArray, List.set_cons_zero, List.set_cons_succ]
        refine AnyL.take 8 (v := ?_) rfl (by kernel_rfl) (by kernel_rfl) (by kernel_rfl) (by kernel_rfl) (fun _ _ _ h => h) (by assumption) (Or.inl ⟨by rfl, ?_⟩) ?_
        rotate_left
        · (intro w' hSw; (try dsimp only at hSw); go_simp; try (with_reducible rfl))
        try simp only [Act.put, List.setIfInBounds_toArray, List.set_cons_zero, List.set_cons_succ]
        refine AnyL.take 9 (v := ?_) rfl (by kernel_rfl) (by kernel_rfl) (by kernel_rfl) (by kernel_rfl) (fun _ _ _ h => h) (by assumption) (Or.inl ⟨by rfl, ?_⟩) ?_
        rotate_left
        · (intro w' hSw; (try dsimp only at hSw); go_simp; try (with_reducible rfl))
        try simp only [Act.put, List.setIfInBounds_toArray, List.set_cons_zero, List.set_cons_succ]
        refine AnyL.take 10 (v := ?_) rfl (by kernel_rfl) (by kernel_rfl) (by kernel_rfl) (by kernel_rfl) (fun _ _ _ h => h) (by assumption) (Or.inl ⟨by rfl, ?_⟩) ?_
        rotate_left
        · (intro w' hSw; (try dsimp only at hSw); go_simp; try (with_reducible rfl))
        try simp only [Act.put, List.setIfInBounds_toArray, List.set_cons_zero, List.set_cons_succ]
        refine AnyL.take 11 (v := ?_) rfl (by kernel_rfl) (by kernel_rfl) (by kernel_rfl) (by kernel_rfl) (fun _ _ _ h => h) (by assumption) (Or.inl ⟨by rfl, ?_⟩) ?_
        rotate_left
        · (intro w' hSw; (try dsimp only at hSw); go_simp; try (with_reducible rfl))
        try simp only [Act.put, List.setIfInBounds_toArray, List.set_cons_zero, List.set_cons_succ]
        refine AnyL.take 12 (v := ?_) rfl (by kernel_rfl) (by kernel_rfl) (by kernel_rfl) (by kernel_rfl) (fun _ _ _ h => h) (by assumption) (Or.inl ⟨by rfl, ?_⟩) ?_
        rotate_left
        · (intro w' hSw; (try dsimp only at hSw); go_simp; try (with_reducible rfl))
        try simp only [Act.put, List.setIfInBounds_toArray, List.set_cons_zero, List.set_cons_succ]
        refine AnyL.one 13 (by kernel_rfl) rfl (fun K hK => ?_)
        go_simp
        refine ((Hs.out.drew HC.out).raw HC.out (q2 i) (fun h => hwq.out h) hqr.1 hqr.2).mono ?_
        rintro e wb ⟨rfl, F2, g1⟩
        have hS2 : (fun w' => w'.cell? ⟨kb, 1, none⟩ = some (.iface c.T c.pv) ∧ w'.cell? ⟨kb, 2, none⟩ = some (.pointer (some ⟨mb, 0, none⟩)) ∧ w'.cell? ⟨mb, 482, none⟩ = some (.slice (some ⟨pb, 0, none⟩) 384 cap)) wb := ⟨g1.k1, g1.k2, by rw [g1.m.cell 482 (by decide), upd_same]⟩
        have hpcm : PcmIs wb pb q2 := HQ.out.only g1.o (by simp; exact ⟨hpsm.1, hpsm.2, Hpf.out⟩)
        have cpb := hpcm.cell i hlt
        have zpb := hpcm.free i
        have hpF2 : pb ∉ F2 := fun hm => (g1.n pb hm).elim Hpf.out (fun h => by have := HQ.out.lt; have : wr.drew.heap.size = wr.heap.size := rfl; omega)
        have G1 := Lib.hid g1
        have HPC := Lib.hid hpcm
        have HpF2 := Lib.hid hpF2
        clear g1 hpcm hpF2
        refine hK _ _ (fun _ => hS2) (fun hKq => ?_)
        clear hK K hKq
        try simp only [Act.put, List.setIfInBounds_toArray, List.set_cons_zero, List.set_cons_succ]
        refine AnyL.one 14 (by kernel_rfl) rfl (fun K hK => ?_)
        go_simp
        refine hK _ _ (fun _ => hS2) (fun hKq => ?_)
        clear hK K hKq
        try simp only [Act.put, List.setIfInBounds_toArray, List.set_cons_zero, List.set_cons_succ]
        refine AnyL.one 15 (by kernel_rfl) rfl (fun K hK => ?_)
        go_simp
        refine hK _ _ (fun h => absurd rfl h) (fun hKq => ?_)
        clear hK K hKq
        try simp only [Act.put, List.setIfInBounds_toArray, List.set_cons_zero, List.set_cons_succ]
        refine AnyL.done (by kernel_rfl) ?_ _
        have hq3 := HPC.out.set i (ps i) (Hp.out i hlt)
        have g2 := G1.out.aside HC.out ((Only.refl [pb] wb).setCell (p := ⟨pb, i, none⟩) (.inl (by simp)) (.int .u8 (ps i))) (fun z hz => by
          have e : z = pb := by simpa using hz
          subst e
          exact ⟨Hne.out.1, Hne.out.2.1, Hne.out.2.2.1, HpF2.out, Hne.out.2.2.2⟩)
        have hon : Only (sb :: mb :: pb :: F) w (wb.setCell ⟨pb, i, none⟩ (.int .u8 (ps i))) := (honly.out.trans' (G1.out.o) (fun z hz => by
          simp only [List.mem_cons] at hz ⊢
          rcases hz with h | h | h
          · exact .inl (.inl h)
          · exact .inl (.inr (.inl h))
          · rcases hF1.out z h with h | h
            · exact .inl (.inr (.inr (.inr h)))
            · exact .inr h)).setCell (.inl (by simp)) _
        have hF2 : ∀ z ∈ F2, z ∈ F ∨ w.heap.size ≤ z := fun z hz => (G1.out.n z hz).elim (hF1.out z) (fun h => .inr (Nat.le_trans honly.out.size h))
        generalize wb.setCell ⟨pb, i, none⟩ (.int .u8 (ps i)) = wc at *
        have HQ3 := Lib.hid hq3
        have G2 := Lib.hid g2
        have HON := Lib.hid hon
        have HF2 := Lib.hid hF2
        clear hq3 g2 hon hF2 hS2 hS0 cpb zpb k1 k2 c482 cq
        go_wp2
        refine ⟨⟨i + 1, F2, _, by omega, by simp, G2.out, HQ3.out, HpF2, Lib.hid (fun j hj => ?_), Lib.hid (fun h j hj => ?_), HON, HF2⟩, by simp [intOf]; omega⟩
        · by_cases e : j = i
          · rw [if_pos e, e]
          · rw [if_neg e]; exact hlow.out j (by omega)
        · by_cases e : j = i
          · rw [if_pos e, e]
          · rw [if_neg e]; exact hwq2.out h j hj
      · obtain rfl : i = 384 := by omega
        have Hs := Lib.hid hs
        have HQ := Lib.hid (hq.congr hlow.out)
        clear hs hq
        go_wp2
        go_end0
        exact ⟨rfl, F1, pb, cap, Hs.out, HQ.out, Hpf.out, honly.out, hF1.out, Hnew.out⟩
  · have hXu : upd X 482 (.slice (some ⟨pb, 0, none⟩) 384 cap) = X := by
      funext j
      unfold upd
      split
      · rename_i e; rw [e, hX]
      · rfl
    have Hs1 : Hid (Scene c F w w kb sb mb S (upd X 482 (.slice (some ⟨pb, 0, none⟩) 384 cap)) n D F (pcmAsk ((List.range 384).map ps) ++ r)) := Lib.hid (by rw [hXu]; exact H.out.here)
    have Hq1 := Lib.hid hq
    have Ho1 : Hid (Only (sb :: mb :: pb :: F) w w) := Lib.hid (Only.refl _ _)
    have Hpf := Lib.hid hpF
    have Hnew : Hid (w.heap.size ≤ pb ∨ ∃ cap', X 482 = .slice (some ⟨pb, 0, none⟩) 384 cap') := Lib.hid (.inr ⟨cap, hX⟩)
    have Hwq := Lib.hid hwr
    rw [hX] at c482
    clear hXu hq hpF hwr hX z482
    go_enter Tryz.func70, Tryz.ntmps70
    go_wp2
    go_loopw [28] (fun iv wr => ∃ (i : Nat) (F1 : List Nat) (q2 : Nat → Int), i ≤ 384 ∧ iv = .int .i64 i ∧ Scene c F1 wr wr kb sb mb S (upd X 482 (.slice (some ⟨pb, 0, none⟩) 384 cap)) n D F1 (pcmAsk ((List.range' i (384 - i)).map ps) ++ r) ∧ PcmIs wr pb q2 ∧ Hid (pb ∉ F1) ∧ Hid (∀ j, j < i → q2 j = ps j) ∧ Hid (c.wr = true → ∀ j, j < 384 → q2 j = ps j) ∧ Hid (Only (sb :: mb :: pb :: F) w wr) ∧ Hid (∀ z ∈ F1, z ∈ F ∨ w.heap.size ≤ z)) (fun iv _ => 384 - (intOf iv).toNat)
    case atStart => exact ⟨0, F, q, Nat.zero_le _, rfl, by rw [← List.range_eq_range']; exact Hs1.out, Hq1.out, Hpf, Lib.hid (fun j hj => absurd hj (Nat.not_lt_zero j)), Hwq, Ho1, Lib.hid (fun z hz => .inl hz)⟩
    case round =>
      clear c482 k2
      obtain ⟨i, F1, q2, hi, rfl, hs, hq, Hpf, hlow, hwq2, honly, hF1⟩ := hrel
      by_cases hlt : i < 384
      · rw [pcmAsk_step ps hlt] at hs
        have k1 := hs.k1
        have k2 := hs.k2
        have c482 : wr.cell? ⟨mb, 482, none⟩ = some (.slice (some ⟨pb, 0, none⟩) 384 cap) := by rw [hs.m.cell 482 (by decide), upd_same]
        have cq := hq.cell i hlt
        have hqr := hq.range i hlt
        have hne := hq.ne hs
        have hpsm : pb ≠ sb ∧ pb ≠ mb := ⟨hne.2.1, hne.2.2.1⟩
        have hwq : Hid (c.wr = true → q2 i = ps i) := Lib.hid (fun h => hwq2.out h i hlt)
        have Hs := Lib.hid hs
        have HQ := Lib.hid hq
        have Hne := Lib.hid hne
        clear hs hq hne
        go_wp2_with fail
        have hli : (i : Int) < 384 := by omega
        refine wp_region_L (by kernel_rfl) (fun w' => w'.cell? ⟨kb, 1, none⟩ = some (.iface c.T c.pv) ∧ w'.cell? ⟨kb, 2, none⟩ = some (.pointer (some ⟨mb, 0, none⟩)) ∧ w'.cell? ⟨mb, 482, none⟩ = some (.slice (some ⟨pb, 0, none⟩) 384 cap)) 15 ?_
        have hS0 : (fun w' => w'.cell? ⟨kb, 1, none⟩ = some (.iface c.T c.pv) ∧ w'.cell? ⟨kb, 2, none⟩ = some (.pointer (some ⟨mb, 0, none⟩)) ∧ w'.cell? ⟨mb, 482, none⟩ = some (.slice (some ⟨pb, 0, none⟩) 384 cap)) wr.drew := ⟨k1, k2, c482⟩
        refine AnyL.take 0 (v := ?_) rfl (by kernel_rfl) (by kernel_rfl) (by kernel_rfl) (by kernel_rfl) (fun _ _ _ h => h) (by assumption) (Or.inl ⟨by rfl, ?_⟩) ?_
        rotate_left
        · (intro w' hSw; (try dsimp only at hSw); go_simp; try (with_reducible rfl))
        try simp only [Act.put, List.setIfInBounds_toArray, List.set_cons_zero, List.set_cons_succ]
        refine AnyL.take 1 (v := ?_) rfl (by kernel_rfl) (by kernel_rfl) (by kernel_rfl) (by kernel_rfl) (fun _ _ _ h => h) (by assumption) (Or.inl ⟨by rfl, ?_⟩) ?_
        rotate_left
        · (intro w' hSw; (try dsimp only at hSw); go_simp; try (with_reducible rfl))
        try simp only [Act.put, List.setIfInBounds_toArray, List.set_cons_zero, List.set_cons_succ]
        refine AnyL.take 2 (v := ?_) rfl (by kernel_rfl) (by kernel_rfl) (by kernel_rfl) (by kernel_rfl) (fun _ _ _ h => h) (by assumption) (Or.inl ⟨by rfl, ?_⟩) ?_
        rotate_left
        · (intro w' hSw; (try dsimp only at hSw); go_simp; try (with_reducible rfl))
        try simp only [Act.put, List.setIfInBounds_toArray, List.set_cons_zero, List.set_cons_succ]
        refine AnyL.take 3 (v := ?_) rfl (by kernel_rfl) (by kernel_rfl) (by kernel_rfl) (by kernel_rfl) (fun _ _ _ h => h) (by assumption) (Or.inl ⟨by rfl, ?_⟩) ?_
        rotate_left
        · (intro w' hSw; (try dsimp only at hSw); go_simp; try (with_reducible rfl))
        try simp only [Act.put, List.setIfInBounds_toArray, List.set_cons_zero, List.set_cons_succ]
        refine AnyL.take 4 (v := ?_) rfl (by kernel_rfl) (by kernel_rfl) (by kernel_rfl) (by kernel_rfl) (fun _ _ _ h => h) (by assumption) (Or.inl ⟨by rfl, ?_⟩) ?_
        rotate_left
        · (intro w' hSw; (try dsimp only at hSw); go_simp; try (with_reducible rfl))
        try simp only [Act.put, List.setIfInBounds_toArray, List.set_cons_zero, List.set_cons_succ]
        refine AnyL.take 5 (v := ?_) rfl (by kernel_rfl) (by kernel_rfl) (by kernel_rfl) (by kernel_rfl) (fun _ _ _ h => h) (by assumption) (Or.inl ⟨by rfl, ?_⟩) ?_
        rotate_left
        · (intro w' hSw; (try dsimp only at hSw); go_simp; try (with_reducible rfl))
        try simp only [Act.put, List.setIfInBounds_toArray, List.set_cons_zero, List.set_cons_succ]
        refine AnyL.take 6 (v := ?_) rfl (by kernel_rfl) (by kernel_rfl) (by kernel_rfl) (by kernel_rfl) (fun _ _ _ h => h) (by assumption) (Or.inl ⟨by rfl, ?_⟩) ?_
        rotate_left
        · (intro w' hSw; (try dsimp only at hSw); go_simp; try (with_reducible rfl))
        try simp only [Act.put, List.setIfInBounds_toArray, List.set_cons_zero, List.set_cons_succ]
        refine AnyL.take 7 (v := ?_) rfl (by kernel_rfl) (by kernel_rfl) (by kernel_rfl) (by kernel_rfl) (fun _ _ _ h => h) (by assumption) (Or.inl ⟨by rfl, ?_⟩) ?_
        rotate_left
        · (intro w' hSw; (try dsimp only at hSw); go_simp; try (with_reducible rfl))
        try simp only [Act.put, List.setIfInBounds_toArray, List.set_cons_zero, List.set_cons_succ]
        refine AnyL.take 8 (v := ?_) rfl (by kernel_rfl) (by kernel_rfl) (by kernel_rfl) (by kernel_rfl) (fun _ _ _ h => h) (by assumption) (Or.inl ⟨by rfl, ?_⟩) ?_
        rotate_left
        · (intro w' hSw; (try dsimp only at hSw); go_simp; try (with_reducible rfl))
        try simp only [Act.put, List.setIfInBounds_toArray, List.set_cons_zero, List.set_cons_succ]
        refine AnyL.take 9 (v := ?_) rfl (by kernel_rfl) (by kernel_rfl) (by kernel_rfl) (by kernel_rfl) (fun _ _ _ h => h) (by assumption) (Or.inl ⟨by rfl, ?_⟩) ?_
        rotate_left
        · (intro w' hSw; (try dsimp only at hSw); go_simp; try (with_reducible rfl))
        try simp only [Act.put, List.setIfInBounds_toArray, List.set_cons_zero, List.set_cons_succ]
        refine AnyL.take 10 (v := ?_) rfl (by kernel_rfl) (by kernel_rfl) (by kernel_rfl) (by kernel_rfl) (fun _ _ _ h => h) (by assumption) (Or.inl ⟨by rfl, ?_⟩) ?_
        rotate_left
        · (intro w' hSw; (try dsimp only at hSw); go_simp; try (with_reducible rfl))
        try simp only [Act.put, List.setIfInBounds_toArray, List.set_cons_zero, List.set_cons_succ]
        refine AnyL.take 11 (v := ?_) rfl (by kernel_rfl) (by kernel_rfl) (by kernel_rfl) (by kernel_rfl) (fun _ _ _ h => h) (by assumption) (Or.inl ⟨by rfl, ?_⟩) ?_
        rotate_left
        · (intro w' hSw; (try dsimp only at hSw); go_simp; try (with_reducible rfl))
        try simp only [Act.put, List.setIfInBounds_toArray, List.set_cons_zero, List.set_cons_succ]
        refine AnyL.take 12 (v := ?_) rfl (by kernel_rfl) (by kernel_rfl) (by kernel_rfl) (by kernel_rfl) (fun _ _ _ h => h) (by assumption) (Or.inl ⟨by rfl, ?_⟩) ?_
        rotate_left
        · (intro w' hSw; (try dsimp only at hSw); go_simp; try (with_reducible rfl))
        try simp only [Act.put, List.setIfInBounds_toArray, List.set_cons_zero, List.set_cons_succ]
        refine AnyL.one 13 (by kernel_rfl) rfl (fun K hK => ?_)
        go_simp
        refine ((Hs.out.drew HC.out).raw HC.out (q2 i) (fun h => hwq.out h) hqr.1 hqr.2).mono ?_
        rintro e wb ⟨rfl, F2, g1⟩
        have hS2 : (fun w' => w'.cell? ⟨kb, 1, none⟩ = some (.iface c.T c.pv) ∧ w'.cell? ⟨kb, 2, none⟩ = some (.pointer (some ⟨mb, 0, none⟩)) ∧ w'.cell? ⟨mb, 482, none⟩ = some (.slice (some ⟨pb, 0, none⟩) 384 cap)) wb := ⟨g1.k1, g1.k2, by rw [g1.m.cell 482 (by decide), upd_same]⟩
        have hpcm : PcmIs wb pb q2 := HQ.out.only g1.o (by simp; exact ⟨hpsm.1, hpsm.2, Hpf.out⟩)
        have cpb := hpcm.cell i hlt
        have zpb := hpcm.free i
        have hpF2 : pb ∉ F2 := fun hm => (g1.n pb hm).elim Hpf.out (fun h => by have := HQ.out.lt; have : wr.drew.heap.size = wr.heap.size := rfl; omega)
        have G1 := Lib.hid g1
        have HPC := Lib.hid hpcm
        have HpF2 := Lib.hid hpF2
        clear g1 hpcm hpF2
        refine hK _ _ (fun _ => hS2) (fun hKq => ?_)
        clear hK K hKq
        try simp only [Act.put, List.setIfInBounds_toArray, List.set_cons_zero, List.set_cons_succ]
        refine AnyL.one 14 (by kernel_rfl) rfl (fun K hK => ?_)
        go_simp
        refine hK _ _ (fun _ => hS2) (fun hKq => ?_)
        clear hK K hKq
        try simp only [Act.put, List.setIfInBounds_toArray, List.set_cons_zero, List.set_cons_succ]
        refine AnyL.one 15 (by kernel_rfl) rfl (fun K hK => ?_)
        go_simp
        refine hK _ _ (fun h => absurd rfl h) (fun hKq => ?_)
        clear hK K hKq
        try simp only [Act.put, List.setIfInBounds_toArray, List.set_cons_zero, List.set_cons_succ]
        refine AnyL.done (by kernel_rfl) ?_ _
        have hq3 := HPC.out.set i (ps i) (Hp.out i hlt)
        have g2 := G1.out.aside HC.out ((Only.refl [pb] wb).setCell (p := ⟨pb, i, none⟩) (.inl (by simp)) (.int .u8 (ps i))) (fun z hz => by
          have e : z = pb := by simpa using hz
          subst e
          exact ⟨Hne.out.1, Hne.out.2.1, Hne.out.2.2.1, HpF2.out, Hne.out.2.2.2⟩)
        have hon : Only (sb :: mb :: pb :: F) w (wb.setCell ⟨pb, i, none⟩ (.int .u8 (ps i))) := (honly.out.trans' (G1.out.o) (fun z hz => by
          simp only [List.mem_cons] at hz ⊢
          rcases hz with h | h | h
          · exact .inl (.inl h)
          · exact .inl (.inr (.inl h))
          · rcases hF1.out z h with h | h
            · exact .inl (.inr (.inr (.inr h)))
            · exact .inr h)).setCell (.inl (by simp)) _
        have hF2 : ∀ z ∈ F2, z ∈ F ∨ w.heap.size ≤ z := fun z hz => (G1.out.n z hz).elim (hF1.out z) (fun h => .inr (Nat.le_trans honly.out.size h))
        generalize wb.setCell ⟨pb, i, none⟩ (.int .u8 (ps i)) = wc at *
        have HQ3 := Lib.hid hq3
        have G2 := Lib.hid g2
        have HON := Lib.hid hon
        have HF2 := Lib.hid hF2
        clear hq3 g2 hon hF2 hS2 hS0 cpb zpb k1 k2 c482 cq
        go_wp2
        refine ⟨⟨i + 1, F2, _, by omega, by simp, G2.out, HQ3.out, HpF2, Lib.hid (fun j hj => ?_), Lib.hid (fun h j hj => ?_), HON, HF2⟩, by simp [intOf]; omega⟩
        · by_cases e : j = i
          · rw [if_pos e, e]
          · rw [if_neg e]; exact hlow.out j (by omega)
        · by_cases e : j = i
          · rw [if_pos e, e]
          · rw [if_neg e]; exact hwq2.out h j hj
      · obtain rfl : i = 384 := by omega
        have Hs := Lib.hid hs
        have HQ := Lib.hid (hq.congr hlow.out)
        clear hs hq
        go_wp2
        go_end0
        exact ⟨rfl, F1, pb, cap, Hs.out, HQ.out, Hpf.out, honly.out, hF1.out, Hnew.out⟩
end Go.Proofs.YtcppbdlmcbjmeaaGreatDoor

namespace Go.Proofs.YtcppbdlmcbjmeaaGreatDoor
open Go.RowKit

/-- All cells told. -/
def laidY (X : Nat → Value) (y : Nat → Int) : Nat → Value := fun j => if j < 482 then .int .i64 (y j) else X j
theorem laidY_at {X : Nat → Value} {y : Nat → Int} {j : Nat} (h : j < 482) : laidY X y j = .int .i64 (y j) := by unfold laidY; rw [if_pos h]
/-- A macroblock's values as it stands behind. -/
def dOf (y : Nat → Int) : DoneP := ⟨y 0, y 48, fun i => y (2 + i), fun i => y (20 + i)⟩
/-- What lies in a macroblock ahead of the walk: a writer's is told whole, a reader's is empty. -/
structure MbGiven (wr : Bool) (X : Nat → Value) (x y : Nat → Int) : Prop where
  cell : ∀ j, j < 482 → X j = .int .i64 (x j)
  told : wr = true → ∀ j, j < 482 → x j = y j
  none : wr = false → ∀ j, j < 482 → x j = 0
/-- What is neither told nor anything. -/
theorem MbGiven.same {wr : Bool} {X : Nat → Value} {x y : Nat → Int} (h : MbGiven wr X x y) {j : Nat} (hj : j < 482) (h0 : y j = 0) : X j = .int .i64 (y j) := by
  rw [h.cell j hj]
  cases hw : wr with
  | true => rw [h.told hw j hj]
  | false => rw [h.none hw j hj, h0]
theorem MbGiven.range {wr : Bool} {X : Nat → Value} {x y : Nat → Int} (h : MbGiven wr X x y) {j : Nat} {a b : Int} (hj : j < 482) (hy : a ≤ y j ∧ y j ≤ b) (h0 : a ≤ 0 ∧ 0 ≤ b) : a ≤ x j ∧ x j ≤ b := by
  cases hw : wr with
  | true => rw [h.told hw j hj]; exact hy
  | false => rw [h.none hw j hj]; exact h0
theorem idxL_012 (k : Int) (h : k = 0 ∨ k = 1 ∨ k = 2) : (idxL k [0, 1, 2] 0 : Nat) = k.toNat := by rcases h with rfl | rfl | rfl <;> rfl
/-- A scene behind a scene. -/
theorem Scene.trans {c : Cod} {F0 F F' : List Nat} {w0 w w' : World} {kb sb mb n n' : Nat} {S X S' X' : Nat → Value} {D D' : List Value} {r r' : List Ask} (h : Scene c F0 w0 w kb sb mb S X n D F r) (k : Scene c F w w' kb sb mb S' X' n' D' F' r') : Scene c F0 w0 w' kb sb mb S' X' n' D' F' r' where
  k := k.k
  s := k.s
  m := k.m
  a := k.a
  c := k.c
  nk := k.nk
  ns := k.ns
  nm := k.nm
  na := k.na
  o := h.o.trans' k.o (fun i hi => by
    simp only [List.mem_cons] at hi ⊢
    rcases hi with h1 | h1 | h1
    · exact .inl (.inl h1)
    · exact .inl (.inr (.inl h1))
    · rcases h.n i h1 with h2 | h2
      · exact .inl (.inr (.inr h2))
      · exact .inr h2)
  n := fun i hi => (k.n i hi).elim (h.n i) (fun h2 => .inr (Nat.le_trans h.o.size h2))
  l := h.l
theorem laidM_off {X : Nat → Value} {md : Nat → Int} {k j : Nat} (h : ¬ (2 ≤ j ∧ j < 2 + k)) : laidM X md k j = X j := by unfold laidM; rw [if_neg h]
theorem restT_lt {kind : Int} {L G j : Nat} (h : restT kind L G j) : j < 482 := by unfold restT at h; omega
theorem all_told1 {wr : Bool} {X : Nat → Value} {x y : Nat → Int} {L G : Nat} (hg : MbGiven wr X x y) (hy0 : y 0 = 1) (hz : ∀ j, j < 482 → ¬ (j = 0 ∨ j = 18 ∨ j = 19 ∨ restT 1 L G j) → y j = 0) :
    mixP (restT 1 L G) (upd (upd (upd X 0 (.int .i64 1)) 18 (.int .i64 (y 18))) 19 (.int .i64 (y 19))) y = laidY X y := by
  funext j
  by_cases hT : restT 1 L G j
  · rw [mixP_in hT, laidY_at (restT_lt hT)]
  · rw [mixP_out hT]
    by_cases hj : j < 482
    · rw [laidY_at hj]
      by_cases h19 : j = 19
      · subst h19; rw [upd_same]
      · rw [upd_ne _ _ h19]
        by_cases h18 : j = 18
        · subst h18; rw [upd_same]
        · rw [upd_ne _ _ h18]
          by_cases h0 : j = 0
          · subst h0; rw [upd_same, hy0]
          · rw [upd_ne _ _ h0]
            exact hg.same hj (hz j hj (fun h => h.elim h0 (fun h => h.elim h18 (fun h => h.elim h19 hT))))
    · rw [upd_ne _ _ (by omega), upd_ne _ _ (by omega), upd_ne _ _ (by omega)]
      unfold laidY
      rw [if_neg hj]
theorem all_told0 {wr : Bool} {X : Nat → Value} {x y : Nat → Int} {L G : Nat} (hg : MbGiven wr X x y) (hy0 : y 0 = 0) (hz : ∀ j, j < 482 → ¬ (j = 0 ∨ (2 ≤ j ∧ j < 18) ∨ j = 19 ∨ restT 0 L G j) → y j = 0) :
    mixP (restT 0 L G) (upd (laidM (upd X 0 (.int .i64 0)) (fun i => y (2 + i)) 16) 19 (.int .i64 (y 19))) y = laidY X y := by
  funext j
  by_cases hT : restT 0 L G j
  · rw [mixP_in hT, laidY_at (restT_lt hT)]
  · rw [mixP_out hT]
    by_cases hj : j < 482
    · rw [laidY_at hj]
      by_cases h19 : j = 19
      · subst h19; rw [upd_same]
      · rw [upd_ne _ _ h19]
        by_cases h18 : 2 ≤ j ∧ j < 18
        · have h9 := laidM_told (upd X 0 (.int .i64 0)) (fun i => y (2 + i)) 16 (j - 2) (by omega)
          rw [show 2 + (j - 2) = j by omega] at h9
          rw [h9]
        · rw [laidM_off (by omega)]
          by_cases h0 : j = 0
          · subst h0; rw [upd_same, hy0]
          · rw [upd_ne _ _ h0]
            exact hg.same hj (hz j hj (fun h => h.elim h0 (fun h => h.elim h18 (fun h => h.elim h19 hT))))
    · rw [upd_ne _ _ (by omega), laidM_off (by omega), upd_ne _ _ (by omega)]
      unfold laidY
      rw [if_neg hj]
theorem all_told2 {wr : Bool} {X : Nat → Value} {x y : Nat → Int} (v : Value) (hg : MbGiven wr X x y) (hy0 : y 0 = 2) (hz : ∀ j, j < 482 → j ≠ 0 → y j = 0) : upd (upd X 0 (.int .i64 2)) 482 v = upd (laidY X y) 482 v := by
  funext j
  by_cases h : j = 482
  · subst h; rw [upd_same, upd_same]
  · rw [upd_ne _ _ h, upd_ne _ _ h]
    by_cases hj : j < 482
    · rw [laidY_at hj]
      by_cases h0 : j = 0
      · subst h0; rw [upd_same, hy0]
      · rw [upd_ne _ _ h0]
        exact hg.same hj (hz j hj h0)
    · rw [upd_ne _ _ (by omega)]
      unfold laidY
      rw [if_neg hj]
end Go.Proofs.YtcppbdlmcbjmeaaGreatDoor

namespace Go.Proofs.YtcppbdlmcbjmeaaGreatDoor
open Go.RowKit
set_option maxRecDepth 100000 in
set_option maxHeartbeats 6400000 in
theorem wk_run2_2 {c : Cod} {F0 F : List Nat} {w0 w : World} {kb sb mb n f wide : Nat} {S X : Nat → Value} {ds : List DoneP} {r : List Ask} {x y ps : Nat → Int} (hc : c.Ok)
    (h : Scene c F0 w0 w kb sb mb S X n (donesA ds) F (.elem 1 (countN withinB ds f wide n) 2 2 :: (pcmAsk ((List.range 384).map ps) ++ r)))
    (h0 : S 0 = .int .i64 f) (h2 : S 2 = .int .i64 2) (h21 : S 21 = .int .i64 wide) (bf : f ≤ 1000000) (bw : 1 ≤ wide ∧ wide ≤ 1000000) (bn : n ≤ 1000000) (hds : ds.length = n) (hg : MbGiven c.wr X x y) (hy0 : y 0 = 2)
    (hp : ∀ i, i < 384 → 0 ≤ ps i ∧ ps i ≤ 255) (hz : ∀ j, j < 482 → j ≠ 0 → y j = 0)
    (hX : (c.wr = false ∧ X 482 = .slice none 0 0) ∨ ∃ (pb cap : Nat) (q : Nat → Int), X 482 = .slice (some ⟨pb, 0, none⟩) 384 cap ∧ PcmIs w pb q ∧ pb ∉ F ∧ (c.wr = true → ∀ i, i < 384 → q i = ps i)) :
    Calls Tryz.prog 37 #[.pointer (some ⟨kb, 0, none⟩)] w fun e w' => e = .returned (.tuple #[]) ∧ ∃ (v' : Value) (F' : List Nat) (pb cap : Nat), Ran c F0 w0 w' sb mb (upd S 23 v') (upd (laidY X y) 482 (.slice (some ⟨pb, 0, none⟩) 384 cap)) (n + 1) (donesA (ds ++ [dOf y])) F' r (pb :: (S 23).ownBlock.toList) ∧ PcmIs w' pb ps ∧ pb ∉ F' ∧ (w0.heap.size ≤ pb ∨ ∃ cap', X 482 = .slice (some ⟨pb, 0, none⟩) 384 cap') := by
  have mE := hc.mE
  have eE := hc.eE
  have HS := Lib.hid h
  have HC := Lib.hid hc
  have H0 := Lib.hid h0
  have H2 := Lib.hid h2
  have H21 := Lib.hid h21
  have Hb := Lib.hid (And.intro bf (And.intro bw bn))
  have Hds := Lib.hid hds
  have Hg := Lib.hid hg
  have Hy0 := Lib.hid hy0
  have Hz := Lib.hid hz
  have Hp := Lib.hid hp
  have HX := Lib.hid hX
  have k0 := HS.out.k0
  have k2 := HS.out.k2
  have s2 : w.cell? ⟨sb, 2, none⟩ = some (.int .i64 2) := by rw [HS.out.s.cell 2 (by decide), H2.out]
  clear h hc h0 h2 h21 bf bw bn hds hg hy0 hz hp hX
  go_enter Tryz.func37, Tryz.ntmps37
  go_wp2_with fail
  refine (sx_kinds 2 2 (.inr (.inr ⟨rfl, rfl⟩)) w).mono ?_
  rintro e w1 ⟨rfl, hk1, ho1, hz1⟩
  have hs1 := HS.out.same HC.out ho1
  have hgk : w.heap.size ∉ F := fun hm => by have := HC.out.low F _ _ HS.out.c _ hm; omega
  have hgkb : w.heap.size ≠ kb ∧ w.heap.size ≠ sb ∧ w.heap.size ≠ mb := by
    have := lt_of_block HS.out.k; have := HS.out.s.lt; have := HS.out.m.lt
    omega
  obtain ⟨gk, hgkd⟩ : ∃ gk, gk = w.heap.size := ⟨_, rfl⟩
  rw [← hgkd] at hk1 hgk hgkb ⊢
  have HS1 := Lib.hid hs1
  have HK1 := Lib.hid hk1
  have Hgk := Lib.hid hgk
  have Hgkb := Lib.hid hgkb
  have HO1 := Lib.hid ho1
  have k0 := hs1.k0
  have k2 := hs1.k2
  clear hs1 hk1 hgk hgkb hgkd ho1 hz1 s2
  go_wp2_with fail
  refine (st_count (A := withinB) (HS1.out.st H0.out H21.out Hb.out.1 Hb.out.2.1 Hb.out.2.2) Hds.out (fun args w => run_enter Tryz.func67 (by kernel_rfl) (by kernel_rfl) args w) (fun g o k w hh => run2_is g o k w hh)).mono ?_
  rintro e w2 ⟨rfl, ho2⟩
  have hs2 := HS1.out.same HC.out ho2
  have hk2 := ho2.heap HK1.out (by simp)
  obtain ⟨cn, hcn⟩ : ∃ cn, cn = countN withinB ds f wide n := ⟨_, rfl⟩
  rw [← hcn] at hs2 ⊢
  have HO2 : Hid (Only [] w w2) := Lib.hid (HO1.out.trans ho2)
  have HS2 := Lib.hid hs2
  have HK2 := Lib.hid hk2
  clear hs2 hk2 ho2 HS1 HK1 k0 k2 hcn HO1
  go_wp2_with fail
  have hS8 : (fun w' => w'.cell? ⟨kb, 1, none⟩ = some (.iface c.T c.pv) ∧ w'.cell? ⟨mb, 0, none⟩ = some (.int .i64 (x 0)) ∧ w'.cell? ⟨gk, 2, none⟩ = some (.int .i64 0) ∧ w'.cell? ⟨gk, 3, none⟩ = some (.int .i64 1) ∧ w'.cell? ⟨gk, 4, none⟩ = some (.int .i64 2)) w2.drew := by
    refine ⟨HS2.out.k1, ?_, ?_, ?_, ?_⟩
    · show w2.cell? ⟨mb, 0, none⟩ = _
      rw [HS2.out.m.cell 0 (by decide), Hg.out.cell 0 (by decide)]
    all_goals
      show w2.cell? _ = _
      rw [cells_of HK2.out]
      rfl
  refine wp_region_L (by kernel_rfl) (fun w' => w'.cell? ⟨kb, 1, none⟩ = some (.iface c.T c.pv) ∧ w'.cell? ⟨mb, 0, none⟩ = some (.int .i64 (x 0)) ∧ w'.cell? ⟨gk, 2, none⟩ = some (.int .i64 0) ∧ w'.cell? ⟨gk, 3, none⟩ = some (.int .i64 1) ∧ w'.cell? ⟨gk, 4, none⟩ = some (.int .i64 2)) 23 ?_
  have hS0 : (fun w' => w'.cell? ⟨kb, 1, none⟩ = some (.iface c.T c.pv) ∧ w'.cell? ⟨mb, 0, none⟩ = some (.int .i64 (x 0)) ∧ w'.cell? ⟨gk, 2, none⟩ = some (.int .i64 0) ∧ w'.cell? ⟨gk, 3, none⟩ = some (.int .i64 1) ∧ w'.cell? ⟨gk, 4, none⟩ = some (.int .i64 2)) w2.drew := hS8
  refine AnyL.take 0 (v := ?_) rfl (by kernel_rfl) (by kernel_rfl) (by kernel_rfl) (by kernel_rfl) (fun _ _ _ h => h) (by assumption) (Or.inl ⟨by rfl, ?_⟩) ?_
  rotate_left
  · (intro w' hSw; (try dsimp only at hSw); go_simp; try (with_reducible rfl))
  try simp only [Act.put, List.setIfInBounds_toArray, List.set_cons_zero, List.set_cons_succ]
  refine AnyL.take 1 (v := ?_) rfl (by kernel_rfl) (by kernel_rfl) (by kernel_rfl) (by kernel_rfl) (fun _ _ _ h => h) (by assumption) (Or.inl ⟨by rfl, ?_⟩) ?_
  rotate_left
  · (intro w' hSw; (try dsimp only at hSw); go_simp; try (with_reducible rfl))
  try simp only [Act.put, List.setIfInBounds_toArray, List.set_cons_zero, List.set_cons_succ]
  refine AnyL.take 2 (v := ?_) rfl (by kernel_rfl) (by kernel_rfl) (by kernel_rfl) (by kernel_rfl) (fun _ _ _ h => h) (by assumption) (Or.inl ⟨by rfl, ?_⟩) ?_
  rotate_left
  · (intro w' hSw; (try dsimp only at hSw); go_simp; try (with_reducible rfl))
  try simp only [Act.put, List.setIfInBounds_toArray, List.set_cons_zero, List.set_cons_succ]
  refine AnyL.take 3 (v := ?_) rfl (by kernel_rfl) (by kernel_rfl) (by kernel_rfl) (by kernel_rfl) (fun _ _ _ h => h) (by assumption) (Or.inl ⟨by rfl, ?_⟩) ?_
  rotate_left
  · (intro w' hSw; (try dsimp only at hSw); go_simp; try (with_reducible rfl))
  try simp only [Act.put, List.setIfInBounds_toArray, List.set_cons_zero, List.set_cons_succ]
  refine AnyL.take 4 (v := ?_) rfl (by kernel_rfl) (by kernel_rfl) (by kernel_rfl) (by kernel_rfl) (fun _ _ _ h => h) (by assumption) (Or.inl ⟨by rfl, ?_⟩) ?_
  rotate_left
  · (intro w' hSw; (try dsimp only at hSw); go_simp; try (with_reducible rfl))
  try simp only [Act.put, List.setIfInBounds_toArray, List.set_cons_zero, List.set_cons_succ]
  refine AnyL.take 5 (v := ?_) rfl (by kernel_rfl) (by kernel_rfl) (by kernel_rfl) (by kernel_rfl) (fun _ _ _ h => h) (by assumption) (Or.inl ⟨by rfl, ?_⟩) ?_
  rotate_left
  · (intro w' hSw; (try dsimp only at hSw); go_simp; try (with_reducible rfl))
  try simp only [Act.put, List.setIfInBounds_toArray, List.set_cons_zero, List.set_cons_succ]
  refine AnyL.take 6 (v := ?_) rfl (by kernel_rfl) (by kernel_rfl) (by kernel_rfl) (by kernel_rfl) (fun _ _ _ h => h) (by assumption) (Or.inl ⟨by rfl, ?_⟩) ?_
  rotate_left
  · (intro w' hSw; (try dsimp only at hSw); go_simp; try (with_reducible rfl))
  try simp only [Act.put, List.setIfInBounds_toArray, List.set_cons_zero, List.set_cons_succ]
  refine AnyL.take 7 (v := ?_) rfl (by kernel_rfl) (by kernel_rfl) (by kernel_rfl) (by kernel_rfl) (fun _ _ _ h => h) (by assumption) (Or.inl ⟨by rfl, ?_⟩) ?_
  rotate_left
  · (intro w' hSw; (try dsimp only at hSw); go_simp; try (with_reducible rfl))
  try simp only [Act.put, List.setIfInBounds_toArray, List.set_cons_zero, List.set_cons_succ]
  refine AnyL.take 8 (v := ?_) rfl (by kernel_rfl) (by kernel_rfl) (by kernel_rfl) (by kernel_rfl) (fun _ _ _ h => h) (by assumption) (Or.inl ⟨by rfl, ?_⟩) ?_
  rotate_left
  · (intro w' hSw; (try dsimp only at hSw); go_simp; try (with_reducible rfl))
  try simp only [Act.put, List.setIfInBounds_toArray, List.set_cons_zero, List.set_cons_succ]
  refine AnyL.take 9 (v := ?_) rfl (by kernel_rfl) (by kernel_rfl) (by kernel_rfl) (by kernel_rfl) (fun _ _ _ h => h) (by assumption) (Or.inl ⟨by rfl, ?_⟩) ?_
  rotate_left
  · (intro w' hSw; (try dsimp only at hSw); go_simp; try (with_reducible rfl))
  try simp only [Act.put, List.setIfInBounds_toArray, List.set_cons_zero, List.set_cons_succ]
  refine AnyL.take 10 (v := ?_) rfl (by kernel_rfl) (by kernel_rfl) (by kernel_rfl) (by kernel_rfl) (fun _ _ _ h => h) (by assumption) (Or.inl ⟨by rfl, ?_⟩) ?_
  rotate_left
  · (intro w' hSw; (try dsimp only at hSw); go_simp; try (with_reducible rfl))
  try simp only [Act.put, List.setIfInBounds_toArray, List.set_cons_zero, List.set_cons_succ]
  refine AnyL.take 11 (v := ?_) rfl (by kernel_rfl) (by kernel_rfl) (by kernel_rfl) (by kernel_rfl) (fun _ _ _ h => h) (by assumption) (Or.inl ⟨by rfl, ?_⟩) ?_
  rotate_left
  · (intro w' hSw; (try dsimp only at hSw); go_simp; try (with_reducible rfl))
  try simp only [Act.put, List.setIfInBounds_toArray, List.set_cons_zero, List.set_cons_succ]
  refine AnyL.take 13 (v := ?_) rfl (by kernel_rfl) (by kernel_rfl) (by kernel_rfl) (by kernel_rfl) (fun _ _ _ h => h) (by assumption) (Or.inl ⟨by rfl, ?_⟩) ?_
  rotate_left
  · (intro w' hSw; (try dsimp only at hSw); go_simp; try (with_reducible rfl))
  try simp only [Act.put, List.setIfInBounds_toArray, List.set_cons_zero, List.set_cons_succ]
  refine AnyL.take 14 (v := ?_) rfl (by kernel_rfl) (by kernel_rfl) (by kernel_rfl) (by kernel_rfl) (fun _ _ _ h => h) (by assumption) (Or.inl ⟨by rfl, ?_⟩) ?_
  rotate_left
  · (intro w' hSw; (try dsimp only at hSw); go_simp; try (with_reducible rfl))
  try simp only [Act.put, List.setIfInBounds_toArray, List.set_cons_zero, List.set_cons_succ]
  refine AnyL.take 15 (v := ?_) rfl (by kernel_rfl) (by kernel_rfl) (by kernel_rfl) (by kernel_rfl) (fun _ _ _ h => h) (by assumption) (Or.inl ⟨by rfl, ?_⟩) ?_
  rotate_left
  · (intro w' hSw; (try dsimp only at hSw); go_simp; try (with_reducible rfl))
  try simp only [Act.put, List.setIfInBounds_toArray, List.set_cons_zero, List.set_cons_succ]
  refine AnyL.take 16 (v := ?_) rfl (by kernel_rfl) (by kernel_rfl) (by kernel_rfl) (by kernel_rfl) (fun _ _ _ h => h) (by assumption) (Or.inl ⟨by rfl, ?_⟩) ?_
  rotate_left
  · (intro w' hSw; (try dsimp only at hSw); go_simp; try (with_reducible rfl))
  try simp only [Act.put, List.setIfInBounds_toArray, List.set_cons_zero, List.set_cons_succ]
  refine AnyL.take 17 (v := ?_) rfl (by kernel_rfl) (by kernel_rfl) (by kernel_rfl) (by kernel_rfl) (fun _ _ _ h => h) (by assumption) (Or.inl ⟨by rfl, ?_⟩) ?_
  rotate_left
  · (intro w' hSw; (try dsimp only at hSw); go_simp; try (with_reducible rfl))
  try simp only [Act.put, List.setIfInBounds_toArray, List.set_cons_zero, List.set_cons_succ]
  refine AnyL.one 12 (by kernel_rfl) rfl (fun K hK => ?_)
  go_simp
  refine (sx_index (x 0) gk 2 3 3 [0, 1, 2] w2.drew rfl (by decide) (by
    intro i hi
    rcases (show i = 0 ∨ i = 1 ∨ i = 2 by omega) with rfl | rfl | rfl
    · exact hS0.2.2.1
    · exact hS0.2.2.2.1
    · exact hS0.2.2.2.2)).mono ?_
  rintro e w3 ⟨rfl, rfl⟩
  refine hK _ _ (fun _ => hS0) (fun hKq => ?_)
  clear hK K hKq
  try simp only [Act.put, List.setIfInBounds_toArray, List.set_cons_zero, List.set_cons_succ]
  refine AnyL.one 18 (by kernel_rfl) rfl (fun K hK => ?_)
  go_simp
  refine ((HS2.out.drew HC.out).here.elem HC.out (idxL (x 0) [0, 1, 2] 0 : Nat) (fun hwr => by
    rw [Hg.out.told hwr 0 (by decide), Hy0.out]
    rfl)).mono ?_
  rintro e w3 ⟨rfl, F1, g0⟩
  have hk3 : w3.heap[gk]? = some (.cells (kAll.map (Value.int .i64)).toArray 3 (0, 0)) := g0.o.heap (show w2.drew.heap[gk]? = _ from HK2.out) (by
    simp only [List.mem_cons, not_or]
    exact ⟨Hgkb.out.2.1, Hgkb.out.2.2, Hgk.out⟩)
  have g1 := (HS2.out.drew HC.out).trans g0
  have hpq : Hid (∀ pb q, PcmIs w pb q → pb ∉ F → PcmIs w3 pb q ∧ pb ∉ F1) := Lib.hid (fun pb q h1 h2 => by
    have hne := h1.ne HS.out
    refine ⟨((h1.only HO2.out (by simp)).only ((Only.refl [] w2).drew) (by simp)).only g0.o (by simp only [List.mem_cons, not_or]; exact ⟨hne.2.1, hne.2.2.1, h2⟩), fun hm => ?_⟩
    rcases g0.n pb hm with h3 | h3
    · exact h2 h3
    · have h4 := h1.lt
      have h5 := HO2.out.size
      have h6 : w2.drew.heap.size = w2.heap.size := rfl
      omega)
  clear g0
  have hS1 : (fun w' => w'.cell? ⟨kb, 1, none⟩ = some (.iface c.T c.pv) ∧ w'.cell? ⟨mb, 0, none⟩ = some (.int .i64 (x 0)) ∧ w'.cell? ⟨gk, 2, none⟩ = some (.int .i64 0) ∧ w'.cell? ⟨gk, 3, none⟩ = some (.int .i64 1) ∧ w'.cell? ⟨gk, 4, none⟩ = some (.int .i64 2)) w3 := by
    refine ⟨g1.k1, ?_, ?_, ?_, ?_⟩
    · rw [g1.m.cell 0 (by decide), Hg.out.cell 0 (by decide)]
    all_goals
      rw [cells_of hk3]
      rfl
  have z0 := g1.m.free 0
  have G1 := Lib.hid g1
  clear g1 hk3
  refine hK _ _ (fun _ => hS1) (fun hKq => ?_)
  clear hK K hKq
  try simp only [Act.put, List.setIfInBounds_toArray, List.set_cons_zero, List.set_cons_succ]
  refine AnyL.one 19 (by kernel_rfl) rfl (fun K hK => ?_)
  go_simp
  refine hK _ _ (fun _ => hS1) (fun hKq => ?_)
  clear hK K hKq
  try simp only [Act.put, List.setIfInBounds_toArray, List.set_cons_zero, List.set_cons_succ]
  refine AnyL.one 20 (by kernel_rfl) rfl (fun K hK => ?_)
  go_simp
  refine hK _ _ (fun _ => hS1) (fun hKq => ?_)
  clear hK K hKq
  try simp only [Act.put, List.setIfInBounds_toArray, List.set_cons_zero, List.set_cons_succ]
  refine AnyL.one 21 (by kernel_rfl) rfl (fun K hK => ?_)
  go_simp
  refine hK _ _ (fun _ => hS1) (fun hKq => ?_)
  clear hK K hKq
  try simp only [Act.put, List.setIfInBounds_toArray, List.set_cons_zero, List.set_cons_succ]
  refine AnyL.one 22 (by kernel_rfl) rfl (fun K hK => ?_)
  go_simp
  refine hK _ _ (fun _ => hS1) (fun hKq => ?_)
  clear hK K hKq
  try simp only [Act.put, List.setIfInBounds_toArray, List.set_cons_zero, List.set_cons_succ]
  refine AnyL.one 23 (by kernel_rfl) rfl (fun K hK => ?_)
  go_simp
  refine hK _ _ (fun h => absurd rfl h) (fun hKq => ?_)
  clear hK K hKq
  try simp only [Act.put, List.setIfInBounds_toArray, List.set_cons_zero, List.set_cons_succ]
  refine AnyL.done (by kernel_rfl) ?_ _
  have g2 := G1.out.setM HC.out 0 (.int .i64 2)
  have hpr : Hid (∀ pb q, PcmIs w pb q → pb ∉ F → PcmIs (w3.setCell ⟨mb, 0, none⟩ (.int .i64 2)) pb q ∧ pb ∉ F1) := Lib.hid (fun pb q h1 h2 => by
    have h3 := hpq.out pb q h1 h2
    have h4 := h3.1.ne G1.out
    exact ⟨h3.1.only ((Only.refl [mb] w3).setCell (.inl (by simp)) _) (by simp; exact h4.2.2.1), h3.2⟩)
  clear hS0 hS1 hS8 z0 HS2 HK2
  generalize w3.setCell ⟨mb, 0, none⟩ (.int .i64 2) = w4 at *
  have k0 := g2.k0
  have k2 := g2.k2
  have m0 : w4.cell? ⟨mb, 0, none⟩ = some (.int .i64 2) := by rw [g2.m.cell 0 (by decide), upd_same]
  have G2 := Lib.hid g2
  clear g2 G1
  go_wp2_with fail
  refine (wk_pcm HC.out G2.out (by
    rcases HX.out with ⟨h1, h2⟩ | ⟨pb, cap, q, h1, h2, h3, h4⟩
    · exact .inl ⟨h1, by rw [upd_ne _ _ (by decide), h2]⟩
    · exact .inr ⟨pb, cap, q, by rw [upd_ne _ _ (by decide), h1], (hpr.out pb q h2 h3).1, (hpr.out pb q h2 h3).2, h4⟩) Hp.out).mono ?_
  rintro e w5 ⟨rfl, F2, pb, cap, g3, hpcm, hpF, ho5, hF2, hnew⟩
  rw [all_told2 _ Hg.out Hy0.out Hz.out] at g3
  have hw45 : Only (sb :: mb :: (F0 ++ (pb :: (S 23).ownBlock.toList))) w0 w5 := (G2.out.o.mono (T := sb :: mb :: (F0 ++ (pb :: (S 23).ownBlock.toList))) (fun i hi => by
    simp only [List.mem_cons, List.mem_append] at hi ⊢
    rcases hi with h | h | h
    · exact .inl h
    · exact .inr (.inl h)
    · exact .inr (.inr (.inl h)))).trans' ho5 (fun i hi => by
    simp only [List.mem_cons, List.mem_append] at hi ⊢
    rcases hi with h | h | h | h
    · exact .inl (.inl h)
    · exact .inl (.inr (.inl h))
    · exact .inl (.inr (.inr (.inr (.inl h))))
    · rcases G2.out.n i h with h5 | h5
      · exact .inl (.inr (.inr (.inl h5)))
      · exact .inr h5)
  have hF20 : ∀ i ∈ F2, i ∈ F0 ∨ w0.heap.size ≤ i := fun i hi => (hF2 i hi).elim (G2.out.n i) (fun h => .inr (Nat.le_trans G2.out.o.size h))
  have hnew2 : w0.heap.size ≤ pb ∨ ∃ cap', X 482 = .slice (some ⟨pb, 0, none⟩) 384 cap' := hnew.elim (fun h => .inl (Nat.le_trans G2.out.o.size h)) (fun ⟨cap', h⟩ => .inr ⟨cap', by rw [upd_ne _ _ (by decide)] at h; exact h⟩)
  have HPF := Lib.hid hpF
  have HW45 := Lib.hid hw45
  have HF20 := Lib.hid hF20
  have HN2 := Lib.hid hnew2
  have G3 := Lib.hid g3
  have HPC := Lib.hid hpcm
  clear g3 hpcm hpF hw45 hF20 hnew2 ho5 hF2 hnew G2 m0 k0 k2
  go_wp2_with fail
  refine (wk_fill (d := dOf y) G3.out HC.out (by rw [upd_ne _ _ (by decide)]; exact laidY_at (by decide)) (by rw [upd_ne _ _ (by decide)]; exact laidY_at (by decide)) (fun i hi => by rw [upd_ne _ _ (by omega)]; exact laidY_at (by omega)) (fun i hi => by rw [upd_ne _ _ (by omega)]; exact laidY_at (by omega)) Hb.out.2.2 (by show y 0 ≠ 3 ∧ y 0 ≠ 5; rw [Hy0.out]; decide)).mono ?_
  rintro e w8 ⟨rfl, v', g6⟩
  have hne := HPC.out.ne G3.out
  have hpcm8 : PcmIs w8 pb ps := HPC.out.only g6.o (by
    simp only [List.mem_cons, List.mem_append, Option.mem_toList, not_or]
    exact ⟨hne.2.1, hne.2.2.1, HPF.out, hne.2.2.2⟩)
  have g7 := g6.back (H := pb :: (S 23).ownBlock.toList) HW45.out HF20.out (fun g hg => .inl (List.mem_cons_of_mem _ hg))
  have G7 := Lib.hid g7
  have HP8 := Lib.hid hpcm8
  clear g6 g7 hpcm8 hne G3 HPC
  go_wp2
  (try simp only [Exit.inBlock, Exit.then]); refine bodyPost_ret (results_none rfl _ _ _) rfl ?_
  refine ⟨rfl, v', F2, pb, cap, ?_, HP8.out, HPF.out, HN2.out⟩
  rw [donesA_snoc]
  exact G7.out
end Go.Proofs.YtcppbdlmcbjmeaaGreatDoor
