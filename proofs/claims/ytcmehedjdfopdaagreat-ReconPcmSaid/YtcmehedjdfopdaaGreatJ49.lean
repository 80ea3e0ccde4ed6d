/-
  The walk over package recon's filterer.lines where the limits are 0: nothing changes.
-/
import Derived.Test.YtcmehedjdfopdaaGreatJ48
import Derived.Test.YtcmehedjdfopdaaGreatJ14
import Derived.Test.YtcmehedjdfopdaaGreatJ15
namespace Go.Proofs.YtcmehedjdfopdaaGreat
open Go Go.RowKit

/-- What the filter reads at qp 0: its tables' first limits, the filter's struct, a slice without shifts. -/
structure FilAt (w : World) (fb lb tb sb : Nat) : Prop where
  f1 : w.cell? ⟨fb, 1, none⟩ = some (.pointer (some ⟨lb, 0, none⟩))
  l0 : w.cell? ⟨lb, 0, none⟩ = some (.pointer (some ⟨tb, 0, none⟩))
  ta : w.cell? ⟨tb, 3, none⟩ = some (.int .i64 0)
  tc : w.cell? ⟨tb, 55, none⟩ = some (.int .i64 0)
  sa : w.cell? ⟨sb, 19, none⟩ = some (.int .i64 0)
  sc : w.cell? ⟨sb, 20, none⟩ = some (.int .i64 0)
  sq : w.cell? ⟨sb, 25, none⟩ = some (.int .i64 0)
theorem FilAt.only {w w' : World} {S : List Nat} {fb lb tb sb : Nat} (h : FilAt w fb lb tb sb) (ho : Only S w w') (h1 : fb ∉ S) (h2 : lb ∉ S) (h3 : tb ∉ S) (h4 : sb ∉ S) : FilAt w' fb lb tb sb :=
  ⟨ho.cell h.f1 h1, ho.cell h.l0 h2, ho.cell h.ta h3, ho.cell h.tc h3, ho.cell h.sa h4, ho.cell h.sc h4, ho.cell h.sq h4⟩
theorem SmpAt.at {w : World} {g : Nat} {Y : List Int} (h : SmpAt w g Y) (i : Nat) (hi : i < Y.length) : w.cell? ⟨g, i, none⟩ = some (.int .u8 (Y.getD i 0)) := by
  obtain ⟨rest, hr⟩ := h.sm
  rw [cells_of hr, Array.getElem?_append_left (by rw [u8s_size]; exact hi)]
  exact u8s_at Y i hi
theorem SmpAt.free {w : World} {g : Nat} {Y : List Int} (h : SmpAt w g Y) (i : Nat) : w.frozen? ⟨g, i, none⟩ = false := by
  obtain ⟨rest, hr⟩ := h.sm
  exact free_of hr i
theorem SmpAt.same {w : World} {g : Nat} {Y : List Int} (h : SmpAt w g Y) (i : Nat) (hi : i < Y.length) : w.setCell ⟨g, i, none⟩ (.int .u8 (Y.getD i 0)) = w := by
  obtain ⟨rest, hr⟩ := h.sm
  refine setCell_same hr ?_
  rw [Array.getElem?_append_left (by rw [u8s_size]; exact hi)]
  exact u8s_at Y i hi
theorem u8w (a : Int) (h0 : 0 ≤ a) (h1 : a ≤ 255) : IntKind.u8.wrap a = a := by
  have h : IntKind.u8.wrap a = a % 256 := by simp [IntKind.wrap, IntKind.bits, IntKind.signed]
  rw [h]
  omega
/-- Samples to one side of an edge, and to the other. -/
def sideP (Y : List Int) (o across k : Nat) : Int := Y.getD (o - (k + 1) * across) 0
def sideQ (Y : List Int) (o across k : Nat) : Int := Y.getD (o + k * across) 0
theorem four_fill (f : Nat → Int) : fillTo f 4 4 = [f 0, f 1, f 2, f 3] := by rw [fillTo_full]; rfl

set_option maxRecDepth 100000 in
set_option maxHeartbeats 3200000 in
theorem fl_lines0 {w : World} {fb po g lb tb sb cap across along at0 n : Nat} {Y : List Int} {p q : Addr} {kp kq i1 i2 bs : Int} (ch : Bool) (hF : FilAt w fb lb tb sb)
    (hps : w.cell? ⟨fb, po, none⟩ = some (.slice (some ⟨g, 0, none⟩) Y.length cap)) (hY : SmpAt w g Y) (hp : DrwAt w p sb kp 0) (hq : DrwAt w q sb kq 0) (hbs : 1 ≤ bs) (hn : n ≤ 16) (hal : along ≤ 1000) (hat : at0 ≤ 1000000) (hlen : Y.length ≤ 1000000)
    (hin : ∀ i k, i < n → k < 4 → (k + 1) * across ≤ at0 + i * along ∧ at0 + i * along + k * across < Y.length) :
    Calls Tryz.prog 97 #[.pointer (some ⟨fb, 0, none⟩), .pointer (some ⟨fb, po, none⟩), .int .i64 at0, .int .i64 along, .int .i64 across, .int .i64 n, .agg #[.pointer (some p), .int .i64 i1], .agg #[.pointer (some q), .int .i64 i2], .int .i64 bs, .bool ch] w fun e w' => e = .returned (.tuple #[]) ∧ Only [] w w' := by
  obtain ⟨pb, pof, ps⟩ := p
  obtain ⟨qb, qof, qs⟩ := q
  have hps0 : ps = none := hp.sp
  have hqs0 : qs = none := hq.sp
  subst hps0 hqs0
  have HF := Lib.hid hF
  have HPS := Lib.hid hps
  have HY := Lib.hid hY
  have HP := Lib.hid hp
  have HQ := Lib.hid hq
  have Hin := Lib.hid hin
  obtain ⟨len, hlen0⟩ : ∃ len, len = Y.length := ⟨_, rfl⟩
  rw [← hlen0] at HPS hlen
  have Hlen := Lib.hid hlen0
  clear hF hps hY hp hq hin hlen0
  have B1 := Lib.hid (heap_alloc2_old w (.cells #[.pointer (some ⟨pb, pof, none⟩), .int .i64 i1] 196) (.cells #[.pointer (some ⟨qb, qof, none⟩), .int .i64 i2] 196))
  have B2 := Lib.hid (heap_alloc2_new w (.cells #[.pointer (some ⟨pb, pof, none⟩), .int .i64 i1] 196) (.cells #[.pointer (some ⟨qb, qof, none⟩), .int .i64 i2] 196))
  have O1 : Hid (Only [] w ((w.alloc (.cells #[.pointer (some ⟨pb, pof, none⟩), .int .i64 i1] 196)).alloc (.cells #[.pointer (some ⟨qb, qof, none⟩), .int .i64 i2] 196))) := Lib.hid (((Only.refl [] w).alloc _).alloc _)
  go_enter Tryz.func97, Tryz.ntmps97
  go_wp2
  generalize ((w.alloc (.cells #[.pointer (some ⟨pb, pof, none⟩), .int .i64 i1] 196)).alloc (.cells #[.pointer (some ⟨qb, qof, none⟩), .int .i64 i2] 196)) = w1 at *
  go_loopw [27] (fun q wr => ∃ k : Nat, k ≤ n ∧ q = .int .i64 k ∧ wr.heap[w.heap.size]? = some (.cells #[.pointer (some ⟨pb, pof, none⟩), .int .i64 i1] 196 (0, 0)) ∧ wr.heap[w.heap.size + 1]? = some (.cells #[.pointer (some ⟨qb, qof, none⟩), .int .i64 i2] 196 (0, 0)) ∧ Only [] w wr) (fun q _ => n - (intOf q).toNat)
  case atStart => exact ⟨0, Nat.zero_le _, rfl, B1.out, B2.out, O1.out⟩
  case round =>
    obtain ⟨i, hi, rfl, hb1, hb2, ho⟩ := hrel
    rename World => wo
    by_cases hlt : i < n
    · obtain ⟨m, hm⟩ : ∃ m : Nat, m = i * along := ⟨_, rfl⟩
      obtain ⟨o, ho0⟩ : ∃ o : Nat, o = at0 + m := ⟨_, rfl⟩
      have m1 : m ≤ 16000 := by rw [hm]; exact Nat.le_trans (Nat.mul_le_mul (by omega : i ≤ 16) hal) (by omega)
      have q1 : IntKind.i64.wrap ((i : Int) * along) = (m : Int) := by rw [← Int.natCast_mul, ← hm]; exact i64n _ (by omega)
      have q2 : IntKind.i64.wrap ((at0 : Int) + m) = (o : Int) := by rw [← Int.natCast_add, ← ho0]; exact i64n _ (by omega)
      have hino : ∀ k, k < 4 → (k + 1) * across ≤ o ∧ o + k * across < len := fun k hk => by rw [ho0, hm, Hlen.out]; exact Hin.out i k hlt hk
      have o1 : o ≤ 1100000 := by omega
      have Hino := Lib.hid hino
      have WB1 := Lib.hid hb1
      have WB2 := Lib.hid hb2
      have WO := Lib.hid ho
      clear hm ho0 m1 hino hb1 hb2 ho
      go_wp2_with fail
      have C1 := Lib.hid (heap_alloc2_old wo (.cells #[.int .i64 0, .int .i64 0, .int .i64 0, .int .i64 0] 218) (.cells #[.int .i64 0, .int .i64 0, .int .i64 0, .int .i64 0] 218))
      have C2 := Lib.hid (heap_alloc2_new wo (.cells #[.int .i64 0, .int .i64 0, .int .i64 0, .int .i64 0] 218) (.cells #[.int .i64 0, .int .i64 0, .int .i64 0, .int .i64 0] 218))
      have CO : Hid (Only [] wo ((wo.alloc (.cells #[.int .i64 0, .int .i64 0, .int .i64 0, .int .i64 0] 218)).alloc (.cells #[.int .i64 0, .int .i64 0, .int .i64 0, .int .i64 0] 218))) := Lib.hid (((Only.refl [] wo).alloc _).alloc _)
      generalize ((wo.alloc (.cells #[.int .i64 0, .int .i64 0, .int .i64 0, .int .i64 0] 218)).alloc (.cells #[.int .i64 0, .int .i64 0, .int .i64 0, .int .i64 0] 218)) = w2 at *
      go_loopw [35] (fun q wr => ∃ k : Nat, k ≤ 4 ∧ q = .int .i64 k ∧ wr.heap[wo.heap.size]? = some (.cells (ints (fillTo (sideP Y o across) 4 k)) 218 (0, 0)) ∧ wr.heap[wo.heap.size + 1]? = some (.cells (ints (fillTo (sideQ Y o across) 4 k)) 218 (0, 0)) ∧ Only [] wo wr) (fun q _ => 4 - (intOf q).toNat)
      case atStart => exact ⟨0, by omega, rfl, by rw [fillTo_zero]; exact C1.out, by rw [fillTo_zero]; exact C2.out, CO.out⟩
      case round =>
        obtain ⟨k, hk, rfl, hc1, hc2, hoq⟩ := hrel
        by_cases hk4 : k < 4
        · have hio := Hino.out k hk4
          obtain ⟨k1, hk1⟩ : ∃ k1 : Nat, k1 = k + 1 := ⟨_, rfl⟩
          obtain ⟨m1, hm1⟩ : ∃ m1 : Nat, m1 = k1 * across := ⟨_, rfl⟩
          obtain ⟨m2, hm2⟩ : ∃ m2 : Nat, m2 = k * across := ⟨_, rfl⟩
          obtain ⟨ia, hia⟩ : ∃ ia : Nat, ia = o - m1 := ⟨_, rfl⟩
          obtain ⟨ib, hib⟩ : ∃ ib : Nat, ib = o + m2 := ⟨_, rfl⟩
          rw [← hk1, ← hm1, ← hm2, ← hib] at hio
          have r0 : IntKind.i64.wrap ((k : Int) + 1) = (k1 : Int) := by rw [show (k : Int) + 1 = (k1 : Int) by omega]; exact i64n _ (by omega)
          have r1 : IntKind.i64.wrap ((k1 : Int) * across) = (m1 : Int) := by rw [← Int.natCast_mul, ← hm1]; exact i64n _ (by omega)
          have r2 : IntKind.i64.wrap ((o : Int) - m1) = (ia : Int) := by rw [show (o : Int) - m1 = (ia : Int) by omega]; exact i64n _ (by omega)
          have r3 : IntKind.i64.wrap ((k : Int) * across) = (m2 : Int) := by rw [← Int.natCast_mul, ← hm2]; exact i64n _ (by omega)
          have r4 : IntKind.i64.wrap ((o : Int) + m2) = (ib : Int) := by rw [← Int.natCast_add, ← hib]; exact i64n _ (by omega)
          obtain ⟨a, ha⟩ : ∃ a : Int, a = sideP Y o across k := ⟨_, rfl⟩
          obtain ⟨b, hb⟩ : ∃ b : Int, b = sideQ Y o across k := ⟨_, rfl⟩
          have la : ia < len := by omega
          have lb1 : ib < len := hio.2
          have cA0 : wo.cell? ⟨g, ia, none⟩ = some (.int .u8 a) := by rw [ha, sideP, ← hk1, ← hm1, ← hia]; exact (HY.out.only WO.out (by simp)).at ia (by rw [← Hlen.out]; exact la)
          have cB0 : wo.cell? ⟨g, ib, none⟩ = some (.int .u8 b) := by rw [hb, sideQ, ← hm2, ← hib]; exact (HY.out.only WO.out (by simp)).at ib (by rw [← Hlen.out]; exact lb1)
          have cS0 : wo.cell? ⟨fb, po, none⟩ = some (.slice (some ⟨g, 0, none⟩) len cap) := WO.out.cell HPS.out (by simp)
          have ra : 0 ≤ a ∧ a ≤ 255 := by rw [ha]; exact HY.out.ok _
          have rb : 0 ≤ b ∧ b ≤ 255 := by rw [hb]; exact HY.out.ok _
          have va : IntKind.i64.wrap a = a := i64w _ (by omega) (by omega)
          have vb : IntKind.i64.wrap b = b := i64w _ (by omega) (by omega)
          have Hk1 := Lib.hid hk1
          clear hk1 hm1 hm2 hia hib
          have s1 : wr.drew.cell? ⟨wo.heap.size, k, none⟩ = some (.int .i64 ((fillTo (sideP Y o across) 4 k).getD k 0)) := by rw [cells_of (show wr.drew.heap[wo.heap.size]? = _ from hc1), ints_at _ _ (by rw [fillTo_length]; exact hk4)]
          have z1 := free_of (show wr.drew.heap[wo.heap.size]? = _ from hc1) k
          have d1 := heap_set_same (i := k) (.int .i64 a) (show wr.drew.heap[wo.heap.size]? = _ from hc1)
          rw [ints_setIf, fillTo_set _ 4 k a ha] at d1
          have d2 := heap_set_other (b := wo.heap.size) (i := k) (.int .i64 a) (show wr.drew.heap[wo.heap.size + 1]? = _ from hc2) (by omega)
          have s2 : wr.cell? ⟨wo.heap.size + 1, k, none⟩ = some (.int .i64 ((fillTo (sideQ Y o across) 4 k).getD k 0)) := by rw [cells_of hc2, ints_at _ _ (by rw [fillTo_length]; exact hk4)]
          have z2 := free_of hc2 k
          have e1 := heap_set_other (b := wo.heap.size + 1) (i := k) (.int .i64 b) d1 (by omega)
          have e2 := heap_set_same (i := k) (.int .i64 b) d2
          rw [ints_setIf, fillTo_set _ 4 k b hb] at e2
          have eo : Only [] wo (wr.drew.setCell ⟨wo.heap.size, k, none⟩ (.int .i64 a)) := (hoq.drew).setCell (.inr (Nat.le_refl _)) _
          have eo2 := eo.setCell (p := ⟨wo.heap.size + 1, k, none⟩) (.inr (by simp)) (.int .i64 b)
          have cS1 := eo.cell cS0 (by simp)
          have cA1 := eo.cell cA0 (by simp)
          have cB1 := eo.cell cB0 (by simp)
          have cS : wr.drew.cell? ⟨fb, po, none⟩ = some (.slice (some ⟨g, 0, none⟩) len cap) := hoq.cell cS0 (by simp)
          have cA : wr.drew.cell? ⟨g, ia, none⟩ = some (.int .u8 a) := hoq.cell cA0 (by simp)
          have cB : wr.drew.cell? ⟨g, ib, none⟩ = some (.int .u8 b) := hoq.cell cB0 (by simp)
          have E1 := Lib.hid e1
          have E2 := Lib.hid e2
          have EO := Lib.hid eo2
          have hS1 : (wr.drew.setCell ⟨wo.heap.size, k, none⟩ (.int .i64 a)).cell? ⟨fb, po, none⟩ = some (.slice (some ⟨g, 0, none⟩) len cap) ∧ (wr.drew.setCell ⟨wo.heap.size, k, none⟩ (.int .i64 a)).cell? ⟨g, ia, none⟩ = some (.int .u8 a) ∧ (wr.drew.setCell ⟨wo.heap.size, k, none⟩ (.int .i64 a)).cell? ⟨g, ib, none⟩ = some (.int .u8 b) := ⟨cS1, cA1, cB1⟩
          have HS1 := Lib.hid hS1
          clear hS1 e1 e2 eo eo2 d1 d2 hc1 hc2 hoq cS0 cA0 cB0 cS1 cA1 cB1 ha hb hio
          go_wp2_with fail
          refine wp_region_L (by kernel_rfl) (fun w' => w'.cell? ⟨fb, po, none⟩ = some (.slice (some ⟨g, 0, none⟩) len cap) ∧ w'.cell? ⟨g, ia, none⟩ = some (.int .u8 a) ∧ w'.cell? ⟨g, ib, none⟩ = some (.int .u8 b)) 30 ?_
          have hS0 : (fun w' => w'.cell? ⟨fb, po, none⟩ = some (.slice (some ⟨g, 0, none⟩) len cap) ∧ w'.cell? ⟨g, ia, none⟩ = some (.int .u8 a) ∧ w'.cell? ⟨g, ib, none⟩ = some (.int .u8 b)) wr.drew := ⟨cS, cA, cB⟩
          refine AnyL.take 0 (v := ?_) rfl (by kernel_rfl) (by kernel_rfl) (by kernel_rfl) (by kernel_rfl) (fun _ _ _ h => h) (by assumption) (Or.inl ⟨by rfl, ?_⟩) ?_
          rotate_left
          · (intro w' hSw; (try dsimp only at hSw); go_simp; try (with_reducible rfl))
          try simp only [Act.put, List.setIfInBounds_toArray, List.set_cons_zero, List.set_cons_succ]
          refine AnyL.take 1 (v := ?_) rfl (by kernel_rfl) (by kernel_rfl) (by kernel_rfl) (by kernel_rfl) (fun _ _ _ h => h) (by assumption) (Or.inl ⟨by rfl, ?_⟩) ?_
          rotate_left
          · (intro w' hSw; (try dsimp only at hSw); go_simp; try (with_reducible rfl))
          try simp only [Act.put, List.setIfInBounds_toArray, List.set_cons_zero, List.set_cons_succ]
          refine AnyL.take 2 (v := ?_) rfl (by kernel_rfl) (by kernel_rfl) (by kernel_rfl) (by kernel_rfl) (fun _ _ _ h => h) (by assumption) (Or.inl ⟨by rfl, ?_⟩) ?_
          rotate_left
          · (intro w' hSw; (try dsimp only at hSw); go_simp; try (with_reducible rfl))
          try simp only [Act.put, List.setIfInBounds_toArray, List.set_cons_zero, List.set_cons_succ]
          refine AnyL.take 3 (v := ?_) rfl (by kernel_rfl) (by kernel_rfl) (by kernel_rfl) (by kernel_rfl) (fun _ _ _ h => h) (by assumption) (Or.inl ⟨by rfl, ?_⟩) ?_
          rotate_left
          · (intro w' hSw; (try dsimp only at hSw); go_simp; try (with_reducible rfl))
          try simp only [Act.put, List.setIfInBounds_toArray, List.set_cons_zero, List.set_cons_succ]
          refine AnyL.take 4 (v := ?_) rfl (by kernel_rfl) (by kernel_rfl) (by kernel_rfl) (by kernel_rfl) (fun _ _ _ h => h) (by assumption) (Or.inl ⟨by rfl, ?_⟩) ?_
          rotate_left
          · (intro w' hSw; (try dsimp only at hSw); go_simp; try (with_reducible rfl))
          try simp only [Act.put, List.setIfInBounds_toArray, List.set_cons_zero, List.set_cons_succ]
          refine AnyL.take 5 (v := ?_) rfl (by kernel_rfl) (by kernel_rfl) (by kernel_rfl) (by kernel_rfl) (fun _ _ _ h => h) (by assumption) (Or.inl ⟨by rfl, ?_⟩) ?_
          rotate_left
          · (intro w' hSw; (try dsimp only at hSw); go_simp; try (with_reducible rfl))
          try simp only [Act.put, List.setIfInBounds_toArray, List.set_cons_zero, List.set_cons_succ]
          refine AnyL.take 6 (v := ?_) rfl (by kernel_rfl) (by kernel_rfl) (by kernel_rfl) (by kernel_rfl) (fun _ _ _ h => h) (by assumption) (Or.inl ⟨by rfl, ?_⟩) ?_
          rotate_left
          · (intro w' hSw; (try dsimp only at hSw); go_simp; try (with_reducible rfl))
          try simp only [Act.put, List.setIfInBounds_toArray, List.set_cons_zero, List.set_cons_succ]
          refine AnyL.take 7 (v := ?_) rfl (by kernel_rfl) (by kernel_rfl) (by kernel_rfl) (by kernel_rfl) (fun _ _ _ h => h) (by assumption) (Or.inl ⟨by rfl, ?_⟩) ?_
          rotate_left
          · (intro w' hSw; (try dsimp only at hSw); go_simp; try (with_reducible rfl))
          try simp only [Act.put, List.setIfInBounds_toArray, List.set_cons_zero, List.set_cons_succ]
          refine AnyL.take 8 (v := ?_) rfl (by kernel_rfl) (by kernel_rfl) (by kernel_rfl) (by kernel_rfl) (fun _ _ _ h => h) (by assumption) (Or.inl ⟨by rfl, ?_⟩) ?_
          rotate_left
          · (intro w' hSw; (try dsimp only at hSw); go_simp; try (with_reducible rfl))
          try simp only [Act.put, List.setIfInBounds_toArray, List.set_cons_zero, List.set_cons_succ]
          refine AnyL.take 9 (v := ?_) rfl (by kernel_rfl) (by kernel_rfl) (by kernel_rfl) (by kernel_rfl) (fun _ _ _ h => h) (by assumption) (Or.inl ⟨by rfl, ?_⟩) ?_
          rotate_left
          · (intro w' hSw; (try dsimp only at hSw); go_simp; try (with_reducible rfl))
          try simp only [Act.put, List.setIfInBounds_toArray, List.set_cons_zero, List.set_cons_succ]
          refine AnyL.take 10 (v := ?_) rfl (by kernel_rfl) (by kernel_rfl) (by kernel_rfl) (by kernel_rfl) (fun _ _ _ h => h) (by assumption) (Or.inl ⟨by rfl, ?_⟩) ?_
          rotate_left
          · (intro w' hSw; (try dsimp only at hSw); go_simp; try (with_reducible rfl))
          try simp only [Act.put, List.setIfInBounds_toArray, List.set_cons_zero, List.set_cons_succ]
          refine AnyL.take 11 (v := ?_) rfl (by kernel_rfl) (by kernel_rfl) (by kernel_rfl) (by kernel_rfl) (fun _ _ _ h => h) (by assumption) (Or.inl ⟨by rfl, ?_⟩) ?_
          rotate_left
          · (intro w' hSw; (try dsimp only at hSw); go_simp; try (with_reducible rfl))
          try simp only [Act.put, List.setIfInBounds_toArray, List.set_cons_zero, List.set_cons_succ]
          refine AnyL.take 12 (v := ?_) rfl (by kernel_rfl) (by kernel_rfl) (by kernel_rfl) (by kernel_rfl) (fun _ _ _ h => h) (by assumption) (Or.inl ⟨by rfl, ?_⟩) ?_
          rotate_left
          · (intro w' hSw; (try dsimp only at hSw); go_simp; try (with_reducible rfl))
          try simp only [Act.put, List.setIfInBounds_toArray, List.set_cons_zero, List.set_cons_succ]
          refine AnyL.take 13 (v := ?_) rfl (by kernel_rfl) (by kernel_rfl) (by kernel_rfl) (by kernel_rfl) (fun _ _ _ h => h) (by assumption) (Or.inl ⟨by rfl, ?_⟩) ?_
          rotate_left
          · (intro w' hSw; (try dsimp only at hSw); go_simp; try (with_reducible rfl))
          try simp only [Act.put, List.setIfInBounds_toArray, List.set_cons_zero, List.set_cons_succ]
          refine AnyL.take 14 (v := ?_) rfl (by kernel_rfl) (by kernel_rfl) (by kernel_rfl) (by kernel_rfl) (fun _ _ _ h => h) (by assumption) (Or.inl ⟨by rfl, ?_⟩) ?_
          rotate_left
          · (intro w' hSw; (try dsimp only at hSw); go_simp; try (with_reducible rfl))
          try simp only [Act.put, List.setIfInBounds_toArray, List.set_cons_zero, List.set_cons_succ]
          refine AnyL.take 15 (v := ?_) rfl (by kernel_rfl) (by kernel_rfl) (by kernel_rfl) (by kernel_rfl) (fun _ _ _ h => h) (by assumption) (Or.inl ⟨by rfl, ?_⟩) ?_
          rotate_left
          · (intro w' hSw; (try dsimp only at hSw); go_simp; try (with_reducible rfl))
          try simp only [Act.put, List.setIfInBounds_toArray, List.set_cons_zero, List.set_cons_succ]
          refine AnyL.take 16 (v := ?_) rfl (by kernel_rfl) (by kernel_rfl) (by kernel_rfl) (by kernel_rfl) (fun _ _ _ h => h) (by assumption) (Or.inl ⟨by rfl, ?_⟩) ?_
          rotate_left
          · (intro w' hSw; (try dsimp only at hSw); go_simp; try (with_reducible rfl))
          try simp only [Act.put, List.setIfInBounds_toArray, List.set_cons_zero, List.set_cons_succ]
          refine AnyL.take 17 (v := ?_) rfl (by kernel_rfl) (by kernel_rfl) (by kernel_rfl) (by kernel_rfl) (fun _ _ _ h => h) (by assumption) (Or.inl ⟨by rfl, ?_⟩) ?_
          rotate_left
          · (intro w' hSw; (try dsimp only at hSw); go_simp; try (with_reducible rfl))
          try simp only [Act.put, List.setIfInBounds_toArray, List.set_cons_zero, List.set_cons_succ]
          refine AnyL.take 18 (v := ?_) rfl (by kernel_rfl) (by kernel_rfl) (by kernel_rfl) (by kernel_rfl) (fun _ _ _ h => h) (by assumption) (Or.inl ⟨by rfl, ?_⟩) ?_
          rotate_left
          · (intro w' hSw; (try dsimp only at hSw); go_simp; try (with_reducible rfl))
          try simp only [Act.put, List.setIfInBounds_toArray, List.set_cons_zero, List.set_cons_succ]
          refine AnyL.take 19 (v := ?_) rfl (by kernel_rfl) (by kernel_rfl) (by kernel_rfl) (by kernel_rfl) (fun _ _ _ h => h) (by assumption) (Or.inl ⟨by rfl, ?_⟩) ?_
          rotate_left
          · (intro w' hSw; (try dsimp only at hSw); go_simp; try (with_reducible rfl))
          try simp only [Act.put, List.setIfInBounds_toArray, List.set_cons_zero, List.set_cons_succ]
          refine AnyL.take 20 (v := ?_) rfl (by kernel_rfl) (by kernel_rfl) (by kernel_rfl) (by kernel_rfl) (fun _ _ _ h => h) (by assumption) (Or.inl ⟨by rfl, ?_⟩) ?_
          rotate_left
          · (intro w' hSw; (try dsimp only at hSw); go_simp; try (with_reducible rfl))
          try simp only [Act.put, List.setIfInBounds_toArray, List.set_cons_zero, List.set_cons_succ]
          refine AnyL.take 21 (v := ?_) rfl (by kernel_rfl) (by kernel_rfl) (by kernel_rfl) (by kernel_rfl) (fun _ _ _ h => h) (by assumption) (Or.inl ⟨by rfl, ?_⟩) ?_
          rotate_left
          · (intro w' hSw; (try dsimp only at hSw); go_simp; try (with_reducible rfl))
          try simp only [Act.put, List.setIfInBounds_toArray, List.set_cons_zero, List.set_cons_succ]
          refine AnyL.take 22 (v := ?_) rfl (by kernel_rfl) (by kernel_rfl) (by kernel_rfl) (by kernel_rfl) (fun _ _ _ h => h) (by assumption) (Or.inl ⟨by rfl, ?_⟩) ?_
          rotate_left
          · (intro w' hSw; (try dsimp only at hSw); go_simp; try (with_reducible rfl))
          try simp only [Act.put, List.setIfInBounds_toArray, List.set_cons_zero, List.set_cons_succ]
          refine AnyL.take 23 (v := ?_) rfl (by kernel_rfl) (by kernel_rfl) (by kernel_rfl) (by kernel_rfl) (fun _ _ _ h => h) (by assumption) (Or.inl ⟨by rfl, ?_⟩) ?_
          rotate_left
          · (intro w' hSw; (try dsimp only at hSw); go_simp; try (with_reducible rfl))
          try simp only [Act.put, List.setIfInBounds_toArray, List.set_cons_zero, List.set_cons_succ]
          refine AnyL.take 24 (v := ?_) rfl (by kernel_rfl) (by kernel_rfl) (by kernel_rfl) (by kernel_rfl) (fun _ _ _ h => h) (by assumption) (Or.inl ⟨by rfl, ?_⟩) ?_
          rotate_left
          · (intro w' hSw; (try dsimp only at hSw); go_simp; try (with_reducible rfl))
          try simp only [Act.put, List.setIfInBounds_toArray, List.set_cons_zero, List.set_cons_succ]
          refine AnyL.take 25 (v := ?_) rfl (by kernel_rfl) (by kernel_rfl) (by kernel_rfl) (by kernel_rfl) (fun _ _ _ h => h) (by assumption) (Or.inl ⟨by rfl, ?_⟩) ?_
          rotate_left
          · (intro w' hSw; (try dsimp only at hSw); go_simp; try (with_reducible rfl))
          try simp only [Act.put, List.setIfInBounds_toArray, List.set_cons_zero, List.set_cons_succ]
          refine AnyL.take 26 (v := ?_) rfl (by kernel_rfl) (by kernel_rfl) (by kernel_rfl) (by kernel_rfl) (fun _ _ _ h => h) (by assumption) (Or.inl ⟨by rfl, ?_⟩) ?_
          rotate_left
          · (intro w' hSw; (try dsimp only at hSw); go_simp; try (with_reducible rfl))
          try simp only [Act.put, List.setIfInBounds_toArray, List.set_cons_zero, List.set_cons_succ]
          refine AnyL.take 27 (v := ?_) rfl (by kernel_rfl) (by kernel_rfl) (by kernel_rfl) (by kernel_rfl) (fun _ _ _ h => h) (by assumption) (Or.inl ⟨by rfl, ?_⟩) ?_
          rotate_left
          · (intro w' hSw; (try dsimp only at hSw); go_simp; try (with_reducible rfl))
          try simp only [Act.put, List.setIfInBounds_toArray, List.set_cons_zero, List.set_cons_succ]
          refine AnyL.one 28 (by kernel_rfl) rfl (fun K hK => ?_)
          go_simp
          refine hK _ _ (fun _ => HS1.out) (fun _ => ?_)
          clear hK K hS0
          try simp only [Act.put, List.setIfInBounds_toArray, List.set_cons_zero, List.set_cons_succ]
          have hS0 : (fun w' => w'.cell? ⟨fb, po, none⟩ = some (.slice (some ⟨g, 0, none⟩) len cap) ∧ w'.cell? ⟨g, ia, none⟩ = some (.int .u8 a) ∧ w'.cell? ⟨g, ib, none⟩ = some (.int .u8 b)) (wr.drew.setCell ⟨wo.heap.size, k, none⟩ (.int .i64 a)) := HS1.out
          refine AnyL.take 29 (v := ?_) rfl (by kernel_rfl) (by kernel_rfl) (by kernel_rfl) (by kernel_rfl) (fun _ _ _ h => h) (by assumption) (Or.inl ⟨by rfl, ?_⟩) ?_
          rotate_left
          · (intro w' hSw; (try dsimp only at hSw); go_simp; try (with_reducible rfl))
          try simp only [Act.put, List.setIfInBounds_toArray, List.set_cons_zero, List.set_cons_succ]
          refine AnyL.one 30 (by kernel_rfl) rfl (fun K hK => ?_)
          go_simp
          refine hK _ _ (fun h => (h rfl).elim) (fun _ => ?_)
          clear hK K hS0
          try simp only [Act.put, List.setIfInBounds_toArray, List.set_cons_zero, List.set_cons_succ]
          refine AnyL.done (by kernel_rfl) ?_ _
          go_wp2
          go_roundw
          case rel =>
            have hkk := Hk1.out
            subst hkk
            exact ⟨k + 1, by omega, by go_num, E1.out, E2.out, EO.out⟩
          case measure => have hkk := Hk1.out; subst hkk; simp [intOf] <;> omega
        · obtain rfl : k = 4 := by omega
          clear hk hk4
          rw [four_fill] at hc1 hc2
          obtain ⟨a0, ha0⟩ : ∃ a0, a0 = sideP Y o across 0 := ⟨_, rfl⟩
          obtain ⟨a1, ha1⟩ : ∃ a1, a1 = sideP Y o across 1 := ⟨_, rfl⟩
          obtain ⟨a2, ha2⟩ : ∃ a2, a2 = sideP Y o across 2 := ⟨_, rfl⟩
          obtain ⟨a3, ha3⟩ : ∃ a3, a3 = sideP Y o across 3 := ⟨_, rfl⟩
          obtain ⟨b0, hb0⟩ : ∃ b0, b0 = sideQ Y o across 0 := ⟨_, rfl⟩
          obtain ⟨b1, hb1⟩ : ∃ b1, b1 = sideQ Y o across 1 := ⟨_, rfl⟩
          obtain ⟨b2, hb2⟩ : ∃ b2, b2 = sideQ Y o across 2 := ⟨_, rfl⟩
          obtain ⟨b3, hb3⟩ : ∃ b3, b3 = sideQ Y o across 3 := ⟨_, rfl⟩
          rw [← ha0, ← ha1, ← ha2, ← ha3] at hc1
          rw [← hb0, ← hb1, ← hb2, ← hb3] at hc2
          have ra0 : 0 ≤ a0 ∧ a0 ≤ 255 := by rw [ha0]; exact HY.out.ok _
          have rb0 : 0 ≤ b0 ∧ b0 ≤ 255 := by rw [hb0]; exact HY.out.ok _
          have HA := Lib.hid (And.intro ha0 (And.intro ha1 ha2))
          have HB := Lib.hid (And.intro hb0 (And.intro hb1 hb2))
          clear ha0 ha1 ha2 ha3 hb0 hb1 hb2 hb3
          have hu4 := Tryz.underlying218
          have hi4 : (Tryz.prog.info? 218).map (·.size) = some 4 := by kernel_rfl
          have hup := Tryz.underlying196
          have hip : (Tryz.prog.info? 196).map (·.size) = some 2 := by kernel_rfl
          have ow : Only [] w wr.drew := WO.out.trans hoq.drew
          have x1 : wr.drew.rangeAt wo.heap.size 0 [.int .i64 a0, .int .i64 a1, .int .i64 a2, .int .i64 a3] := fun j v hj => by rw [Nat.zero_add, cells_of (show wr.drew.heap[wo.heap.size]? = _ from hc1), ← hj]; exact List.getElem?_toArray
          have x2 : wr.drew.rangeAt (wo.heap.size + 1) 0 [.int .i64 b0, .int .i64 b1, .int .i64 b2, .int .i64 b3] := fun j v hj => by rw [Nat.zero_add, cells_of (show wr.drew.heap[wo.heap.size + 1]? = _ from hc2), ← hj]; exact List.getElem?_toArray
          have x3 : wr.drew.rangeAt w.heap.size 0 [.pointer (some ⟨pb, pof, none⟩), .int .i64 i1] := fun j v hj => by rw [Nat.zero_add, cells_of (hoq.drew.heap WB1.out (by simp)), ← hj, List.getElem?_toArray]
          have x4 : wr.drew.rangeAt (w.heap.size + 1) 0 [.pointer (some ⟨qb, qof, none⟩), .int .i64 i2] := fun j v hj => by rw [Nat.zero_add, cells_of (hoq.drew.heap WB2.out (by simp)), ← hj, List.getElem?_toArray]
          have x5 : wr.drew.cell? ⟨w.heap.size + 1, 0, none⟩ = some (.pointer (some ⟨qb, qof, none⟩)) := by rw [cells_of (hoq.drew.heap WB2.out (by simp))]; rfl
          have hF2 := HF.out.only ow (by simp) (by simp) (by simp) (by simp)
          have hP2 := HP.out.only ow (by simp)
          have hQ2 := HQ.out.only ow (by simp)
          have y1 := hF2.f1
          have y2 := hQ2.c0
          have y3 := hF2.sa
          have y4 := hF2.sc
          have hz1 := hoq.size
          have HC1 : Hid (wr.drew.heap[wo.heap.size]? = some (.cells #[.int .i64 a0, .int .i64 a1, .int .i64 a2, .int .i64 a3] 218 (0, 0))) := Lib.hid hc1
          have HC2 : Hid (wr.drew.heap[wo.heap.size + 1]? = some (.cells #[.int .i64 b0, .int .i64 b1, .int .i64 b2, .int .i64 b3] 218 (0, 0))) := Lib.hid hc2
          have HOQ := Lib.hid hoq.drew
          have hw1s := WO.out.size
          clear hc1 hc2 hoq
          go_wp2_with fail
          refine wp_region_L (by kernel_rfl) (fun w' => w'.cell? ⟨fb, 1, none⟩ = some (.pointer (some ⟨lb, 0, none⟩)) ∧ w'.rangeAt wo.heap.size 0 [.int .i64 a0, .int .i64 a1, .int .i64 a2, .int .i64 a3] ∧ w'.rangeAt (wo.heap.size + 1) 0 [.int .i64 b0, .int .i64 b1, .int .i64 b2, .int .i64 b3] ∧ w'.rangeAt w.heap.size 0 [.pointer (some ⟨pb, pof, none⟩), .int .i64 i1] ∧ w'.rangeAt (w.heap.size + 1) 0 [.pointer (some ⟨qb, qof, none⟩), .int .i64 i2] ∧ w'.cell? ⟨w.heap.size + 1, 0, none⟩ = some (.pointer (some ⟨qb, qof, none⟩)) ∧ w'.cell? ⟨qb, qof, none⟩ = some (.pointer (some ⟨sb, 0, none⟩)) ∧ w'.cell? ⟨sb, 19, none⟩ = some (.int .i64 0) ∧ w'.cell? ⟨sb, 20, none⟩ = some (.int .i64 0)) 37 ?_
          have hS0 : (fun w' => w'.cell? ⟨fb, 1, none⟩ = some (.pointer (some ⟨lb, 0, none⟩)) ∧ w'.rangeAt wo.heap.size 0 [.int .i64 a0, .int .i64 a1, .int .i64 a2, .int .i64 a3] ∧ w'.rangeAt (wo.heap.size + 1) 0 [.int .i64 b0, .int .i64 b1, .int .i64 b2, .int .i64 b3] ∧ w'.rangeAt w.heap.size 0 [.pointer (some ⟨pb, pof, none⟩), .int .i64 i1] ∧ w'.rangeAt (w.heap.size + 1) 0 [.pointer (some ⟨qb, qof, none⟩), .int .i64 i2] ∧ w'.cell? ⟨w.heap.size + 1, 0, none⟩ = some (.pointer (some ⟨qb, qof, none⟩)) ∧ w'.cell? ⟨qb, qof, none⟩ = some (.pointer (some ⟨sb, 0, none⟩)) ∧ w'.cell? ⟨sb, 19, none⟩ = some (.int .i64 0) ∧ w'.cell? ⟨sb, 20, none⟩ = some (.int .i64 0)) wr.drew := ⟨y1, x1, x2, x3, x4, x5, y2, y3, y4⟩
          refine AnyL.take 0 (v := ?_) rfl (by kernel_rfl) (by kernel_rfl) (by kernel_rfl) (by kernel_rfl) (fun _ _ _ h => h) (by assumption) (Or.inl ⟨by rfl, ?_⟩) ?_
          rotate_left
          · (intro w' hSw; (try dsimp only at hSw); go_simp; try (with_reducible rfl))
          try simp only [Act.put, List.setIfInBounds_toArray, List.set_cons_zero, List.set_cons_succ]
          refine AnyL.take 1 (v := ?_) rfl (by kernel_rfl) (by kernel_rfl) (by kernel_rfl) (by kernel_rfl) (fun _ _ _ h => h) (by assumption) (Or.inl ⟨by rfl, ?_⟩) ?_
          rotate_left
          · (intro w' hSw; (try dsimp only at hSw); go_simp; try (with_reducible rfl))
          try simp only [Act.put, List.setIfInBounds_toArray, List.set_cons_zero, List.set_cons_succ]
          refine AnyL.take 2 (v := ?_) rfl (by kernel_rfl) (by kernel_rfl) (by kernel_rfl) (by kernel_rfl) (fun _ _ _ h => h) (by assumption) (Or.inl ⟨by rfl, ?_⟩) ?_
          rotate_left
          · (intro w' hSw; (try dsimp only at hSw); go_simp; try (with_reducible rfl))
          try simp only [Act.put, List.setIfInBounds_toArray, List.set_cons_zero, List.set_cons_succ]
          refine AnyL.take 3 (v := ?_) rfl (by kernel_rfl) (by kernel_rfl) (by kernel_rfl) (by kernel_rfl) (fun _ _ _ h => h) (by assumption) (Or.inl ⟨by rfl, ?_⟩) ?_
          rotate_left
          · (intro w' hSw; (try dsimp only at hSw); go_simp; try (with_reducible rfl))
          try simp only [Act.put, List.setIfInBounds_toArray, List.set_cons_zero, List.set_cons_succ]
          refine AnyL.take 4 rfl (by kernel_rfl) (by kernel_rfl) (by kernel_rfl) (by kernel_rfl) (fun _ _ _ h => h) (by assumption) (yieldsIf_load_mid (by rfl) _ _ rfl wo.heap.size 0 rfl [.int .i64 a0, .int .i64 a1, .int .i64 a2, .int .i64 a3] _ (fun w' h => h.2.1) hu4 rfl hi4) ?_
          try simp only [Act.put, List.setIfInBounds_toArray, List.set_cons_zero, List.set_cons_succ]
          refine AnyL.take 5 rfl (by kernel_rfl) (by kernel_rfl) (by kernel_rfl) (by kernel_rfl) (fun _ _ _ h => h) (by assumption) (yieldsIf_load_mid (by rfl) _ _ rfl (wo.heap.size + 1) 0 rfl [.int .i64 b0, .int .i64 b1, .int .i64 b2, .int .i64 b3] _ (fun w' h => h.2.2.1) hu4 rfl hi4) ?_
          try simp only [Act.put, List.setIfInBounds_toArray, List.set_cons_zero, List.set_cons_succ]
          refine AnyL.take 6 (v := ?_) rfl (by kernel_rfl) (by kernel_rfl) (by kernel_rfl) (by kernel_rfl) (fun _ _ _ h => h) (by assumption) (Or.inl ⟨by rfl, ?_⟩) ?_
          rotate_left
          · (intro w' hSw; (try dsimp only at hSw); go_simp; try (with_reducible rfl))
          try simp only [Act.put, List.setIfInBounds_toArray, List.set_cons_zero, List.set_cons_succ]
          refine AnyL.take 7 rfl (by kernel_rfl) (by kernel_rfl) (by kernel_rfl) (by kernel_rfl) (fun _ _ _ h => h) (by assumption) (yieldsIf_load_mid (by rfl) _ _ rfl w.heap.size 0 rfl [.pointer (some ⟨pb, pof, none⟩), .int .i64 i1] _ (fun w' h => h.2.2.2.1) hup rfl hip) ?_
          try simp only [Act.put, List.setIfInBounds_toArray, List.set_cons_zero, List.set_cons_succ]
          refine AnyL.take 8 rfl (by kernel_rfl) (by kernel_rfl) (by kernel_rfl) (by kernel_rfl) (fun _ _ _ h => h) (by assumption) (yieldsIf_load_mid (by rfl) _ _ rfl (w.heap.size + 1) 0 rfl [.pointer (some ⟨qb, qof, none⟩), .int .i64 i2] _ (fun w' h => h.2.2.2.2.1) hup rfl hip) ?_
          try simp only [Act.put, List.setIfInBounds_toArray, List.set_cons_zero, List.set_cons_succ]
          refine AnyL.take 9 (v := ?_) rfl (by kernel_rfl) (by kernel_rfl) (by kernel_rfl) (by kernel_rfl) (fun _ _ _ h => h) (by assumption) (Or.inl ⟨by rfl, ?_⟩) ?_
          rotate_left
          · (intro w' hSw; (try dsimp only at hSw); go_simp; try (with_reducible rfl))
          try simp only [Act.put, List.setIfInBounds_toArray, List.set_cons_zero, List.set_cons_succ]
          refine AnyL.take 11 (v := ?_) rfl (by kernel_rfl) (by kernel_rfl) (by kernel_rfl) (by kernel_rfl) (fun _ _ _ h => h) (by assumption) (Or.inl ⟨by rfl, ?_⟩) ?_
          rotate_left
          · (intro w' hSw; (try dsimp only at hSw); go_simp; try (with_reducible rfl))
          try simp only [Act.put, List.setIfInBounds_toArray, List.set_cons_zero, List.set_cons_succ]
          refine AnyL.take 12 (v := ?_) rfl (by kernel_rfl) (by kernel_rfl) (by kernel_rfl) (by kernel_rfl) (fun _ _ _ h => h) (by assumption) (Or.inl ⟨by rfl, ?_⟩) ?_
          rotate_left
          · (intro w' hSw; (try dsimp only at hSw); go_simp; try (with_reducible rfl))
          try simp only [Act.put, List.setIfInBounds_toArray, List.set_cons_zero, List.set_cons_succ]
          refine AnyL.take 13 (v := ?_) rfl (by kernel_rfl) (by kernel_rfl) (by kernel_rfl) (by kernel_rfl) (fun _ _ _ h => h) (by assumption) (Or.inl ⟨by rfl, ?_⟩) ?_
          rotate_left
          · (intro w' hSw; (try dsimp only at hSw); go_simp; try (with_reducible rfl))
          try simp only [Act.put, List.setIfInBounds_toArray, List.set_cons_zero, List.set_cons_succ]
          refine AnyL.take 14 (v := ?_) rfl (by kernel_rfl) (by kernel_rfl) (by kernel_rfl) (by kernel_rfl) (fun _ _ _ h => h) (by assumption) (Or.inl ⟨by rfl, ?_⟩) ?_
          rotate_left
          · (intro w' hSw; (try dsimp only at hSw); go_simp; try (with_reducible rfl))
          try simp only [Act.put, List.setIfInBounds_toArray, List.set_cons_zero, List.set_cons_succ]
          refine AnyL.take 15 (v := ?_) rfl (by kernel_rfl) (by kernel_rfl) (by kernel_rfl) (by kernel_rfl) (fun _ _ _ h => h) (by assumption) (Or.inl ⟨by rfl, ?_⟩) ?_
          rotate_left
          · (intro w' hSw; (try dsimp only at hSw); go_simp; try (with_reducible rfl))
          try simp only [Act.put, List.setIfInBounds_toArray, List.set_cons_zero, List.set_cons_succ]
          refine AnyL.take 16 (v := ?_) rfl (by kernel_rfl) (by kernel_rfl) (by kernel_rfl) (by kernel_rfl) (fun _ _ _ h => h) (by assumption) (Or.inl ⟨by rfl, ?_⟩) ?_
          rotate_left
          · (intro w' hSw; (try dsimp only at hSw); go_simp; try (with_reducible rfl))
          try simp only [Act.put, List.setIfInBounds_toArray, List.set_cons_zero, List.set_cons_succ]
          refine AnyL.take 17 (v := ?_) rfl (by kernel_rfl) (by kernel_rfl) (by kernel_rfl) (by kernel_rfl) (fun _ _ _ h => h) (by assumption) (Or.inl ⟨by rfl, ?_⟩) ?_
          rotate_left
          · (intro w' hSw; (try dsimp only at hSw); go_simp; try (with_reducible rfl))
          try simp only [Act.put, List.setIfInBounds_toArray, List.set_cons_zero, List.set_cons_succ]
          refine AnyL.take 18 (v := ?_) rfl (by kernel_rfl) (by kernel_rfl) (by kernel_rfl) (by kernel_rfl) (fun _ _ _ h => h) (by assumption) (Or.inl ⟨by rfl, ?_⟩) ?_
          rotate_left
          · (intro w' hSw; (try dsimp only at hSw); go_simp; try (with_reducible rfl))
          try simp only [Act.put, List.setIfInBounds_toArray, List.set_cons_zero, List.set_cons_succ]
          refine AnyL.take 19 (v := ?_) rfl (by kernel_rfl) (by kernel_rfl) (by kernel_rfl) (by kernel_rfl) (fun _ _ _ h => h) (by assumption) (Or.inl ⟨by rfl, ?_⟩) ?_
          rotate_left
          · (intro w' hSw; (try dsimp only at hSw); go_simp; try (with_reducible rfl))
          try simp only [Act.put, List.setIfInBounds_toArray, List.set_cons_zero, List.set_cons_succ]
          refine AnyL.take 20 (v := ?_) rfl (by kernel_rfl) (by kernel_rfl) (by kernel_rfl) (by kernel_rfl) (fun _ _ _ h => h) (by assumption) (Or.inl ⟨by rfl, ?_⟩) ?_
          rotate_left
          · (intro w' hSw; (try dsimp only at hSw); go_simp; try (with_reducible rfl))
          try simp only [Act.put, List.setIfInBounds_toArray, List.set_cons_zero, List.set_cons_succ]
          refine AnyL.take 21 (v := ?_) rfl (by kernel_rfl) (by kernel_rfl) (by kernel_rfl) (by kernel_rfl) (fun _ _ _ h => h) (by assumption) (Or.inl ⟨by rfl, ?_⟩) ?_
          rotate_left
          · (intro w' hSw; (try dsimp only at hSw); go_simp; try (with_reducible rfl))
          try simp only [Act.put, List.setIfInBounds_toArray, List.set_cons_zero, List.set_cons_succ]
          refine AnyL.take 22 (v := ?_) rfl (by kernel_rfl) (by kernel_rfl) (by kernel_rfl) (by kernel_rfl) (fun _ _ _ h => h) (by assumption) (Or.inl ⟨by rfl, ?_⟩) ?_
          rotate_left
          · (intro w' hSw; (try dsimp only at hSw); go_simp; try (with_reducible rfl))
          try simp only [Act.put, List.setIfInBounds_toArray, List.set_cons_zero, List.set_cons_succ]
          refine AnyL.take 23 (v := ?_) rfl (by kernel_rfl) (by kernel_rfl) (by kernel_rfl) (by kernel_rfl) (fun _ _ _ h => h) (by assumption) (Or.inl ⟨by rfl, ?_⟩) ?_
          rotate_left
          · (intro w' hSw; (try dsimp only at hSw); go_simp; try (with_reducible rfl))
          try simp only [Act.put, List.setIfInBounds_toArray, List.set_cons_zero, List.set_cons_succ]
          refine AnyL.take 24 (v := ?_) rfl (by kernel_rfl) (by kernel_rfl) (by kernel_rfl) (by kernel_rfl) (fun _ _ _ h => h) (by assumption) (Or.inl ⟨by rfl, ?_⟩) ?_
          rotate_left
          · (intro w' hSw; (try dsimp only at hSw); go_simp; try (with_reducible rfl))
          try simp only [Act.put, List.setIfInBounds_toArray, List.set_cons_zero, List.set_cons_succ]
          refine AnyL.take 25 (v := ?_) rfl (by kernel_rfl) (by kernel_rfl) (by kernel_rfl) (by kernel_rfl) (fun _ _ _ h => h) (by assumption) (Or.inl ⟨by rfl, ?_⟩) ?_
          rotate_left
          · (intro w' hSw; (try dsimp only at hSw); go_simp; try (with_reducible rfl))
          try simp only [Act.put, List.setIfInBounds_toArray, List.set_cons_zero, List.set_cons_succ]
          refine AnyL.take 26 (v := ?_) rfl (by kernel_rfl) (by kernel_rfl) (by kernel_rfl) (by kernel_rfl) (fun _ _ _ h => h) (by assumption) (Or.inl ⟨by rfl, ?_⟩) ?_
          rotate_left
          · (intro w' hSw; (try dsimp only at hSw); go_simp; try (with_reducible rfl))
          try simp only [Act.put, List.setIfInBounds_toArray, List.set_cons_zero, List.set_cons_succ]
          refine AnyL.take 27 (v := ?_) rfl (by kernel_rfl) (by kernel_rfl) (by kernel_rfl) (by kernel_rfl) (fun _ _ _ h => h) (by assumption) (Or.inl ⟨by rfl, ?_⟩) ?_
          rotate_left
          · (intro w' hSw; (try dsimp only at hSw); go_simp; try (with_reducible rfl))
          try simp only [Act.put, List.setIfInBounds_toArray, List.set_cons_zero, List.set_cons_succ]
          refine AnyL.take 28 (v := ?_) rfl (by kernel_rfl) (by kernel_rfl) (by kernel_rfl) (by kernel_rfl) (fun _ _ _ h => h) (by assumption) (Or.inl ⟨by rfl, ?_⟩) ?_
          rotate_left
          · (intro w' hSw; (try dsimp only at hSw); go_simp; try (with_reducible rfl))
          try simp only [Act.put, List.setIfInBounds_toArray, List.set_cons_zero, List.set_cons_succ]
          refine AnyL.take 29 (v := ?_) rfl (by kernel_rfl) (by kernel_rfl) (by kernel_rfl) (by kernel_rfl) (fun _ _ _ h => h) (by assumption) (Or.inl ⟨by rfl, ?_⟩) ?_
          rotate_left
          · (intro w' hSw; (try dsimp only at hSw); go_simp; try (with_reducible rfl))
          try simp only [Act.put, List.setIfInBounds_toArray, List.set_cons_zero, List.set_cons_succ]
          refine AnyL.take 30 (v := ?_) rfl (by kernel_rfl) (by kernel_rfl) (by kernel_rfl) (by kernel_rfl) (fun _ _ _ h => h) (by assumption) (Or.inl ⟨by rfl, ?_⟩) ?_
          rotate_left
          · (intro w' hSw; (try dsimp only at hSw); go_simp; try (with_reducible rfl))
          try simp only [Act.put, List.setIfInBounds_toArray, List.set_cons_zero, List.set_cons_succ]
          refine AnyL.take 31 (v := ?_) rfl (by kernel_rfl) (by kernel_rfl) (by kernel_rfl) (by kernel_rfl) (fun _ _ _ h => h) (by assumption) (Or.inl ⟨by rfl, ?_⟩) ?_
          rotate_left
          · (intro w' hSw; (try dsimp only at hSw); go_simp; try (with_reducible rfl))
          try simp only [Act.put, List.setIfInBounds_toArray, List.set_cons_zero, List.set_cons_succ]
          refine AnyL.one 10 (by kernel_rfl) rfl (fun K hK => ?_)
          go_simp
          go_at_call 134
          refine (re_qp0 hP2 hQ2 hF2.sq ch).mono ?_
          rintro e wz ⟨rfl, oz⟩
          have t1 := range_only x1 oz (by simp)
          have t2 := range_only x2 oz (by simp)
          have hSz : (fun w' => w'.cell? ⟨fb, 1, none⟩ = some (.pointer (some ⟨lb, 0, none⟩)) ∧ w'.rangeAt wo.heap.size 0 [.int .i64 a0, .int .i64 a1, .int .i64 a2, .int .i64 a3] ∧ w'.rangeAt (wo.heap.size + 1) 0 [.int .i64 b0, .int .i64 b1, .int .i64 b2, .int .i64 b3] ∧ w'.rangeAt w.heap.size 0 [.pointer (some ⟨pb, pof, none⟩), .int .i64 i1] ∧ w'.rangeAt (w.heap.size + 1) 0 [.pointer (some ⟨qb, qof, none⟩), .int .i64 i2] ∧ w'.cell? ⟨w.heap.size + 1, 0, none⟩ = some (.pointer (some ⟨qb, qof, none⟩)) ∧ w'.cell? ⟨qb, qof, none⟩ = some (.pointer (some ⟨sb, 0, none⟩)) ∧ w'.cell? ⟨sb, 19, none⟩ = some (.int .i64 0) ∧ w'.cell? ⟨sb, 20, none⟩ = some (.int .i64 0)) wz := ⟨oz.cell y1 (by simp), t1, t2, range_only x3 oz (by simp), range_only x4 oz (by simp), oz.cell x5 (by simp), oz.cell y2 (by simp), oz.cell y3 (by simp), oz.cell y4 (by simp)⟩
          refine hK _ _ (fun _ => hSz) (fun _ => ?_)
          clear hK K hS0
          try simp only [Act.put, List.setIfInBounds_toArray, List.set_cons_zero, List.set_cons_succ]
          have hS0 := hSz
          have hF3 := hF2.only oz (by simp) (by simp) (by simp) (by simp)
          refine AnyL.one 32 (by kernel_rfl) rfl (fun K hK => ?_)
          go_simp
          go_at_call 133
          refine (ed_line0 hF3.l0 hF3.ta hF3.tc hbs ra0 rb0).mono ?_
          rintro e wy ⟨rfl, oy⟩
          have oz2 := oz.trans oy
          have hSy : (fun w' => w'.cell? ⟨fb, 1, none⟩ = some (.pointer (some ⟨lb, 0, none⟩)) ∧ w'.rangeAt wo.heap.size 0 [.int .i64 a0, .int .i64 a1, .int .i64 a2, .int .i64 a3] ∧ w'.rangeAt (wo.heap.size + 1) 0 [.int .i64 b0, .int .i64 b1, .int .i64 b2, .int .i64 b3] ∧ w'.rangeAt w.heap.size 0 [.pointer (some ⟨pb, pof, none⟩), .int .i64 i1] ∧ w'.rangeAt (w.heap.size + 1) 0 [.pointer (some ⟨qb, qof, none⟩), .int .i64 i2] ∧ w'.cell? ⟨w.heap.size + 1, 0, none⟩ = some (.pointer (some ⟨qb, qof, none⟩)) ∧ w'.cell? ⟨qb, qof, none⟩ = some (.pointer (some ⟨sb, 0, none⟩)) ∧ w'.cell? ⟨sb, 19, none⟩ = some (.int .i64 0) ∧ w'.cell? ⟨sb, 20, none⟩ = some (.int .i64 0)) wy := ⟨oz2.cell y1 (by simp), range_only x1 oz2 (by simp), range_only x2 oz2 (by simp), range_only x3 oz2 (by simp), range_only x4 oz2 (by simp), oz2.cell x5 (by simp), oz2.cell y2 (by simp), oz2.cell y3 (by simp), oz2.cell y4 (by simp)⟩
          refine hK _ _ (fun _ => hSy) (fun _ => ?_)
          clear hK K hS0
          try simp only [Act.put, List.setIfInBounds_toArray, List.set_cons_zero, List.set_cons_succ]
          have hS0 := hSy
          refine AnyL.take 33 (v := ?_) rfl (by kernel_rfl) (by kernel_rfl) (by kernel_rfl) (by kernel_rfl) (fun _ _ _ h => h) (by assumption) (Or.inl ⟨by rfl, ?_⟩) ?_
          rotate_left
          · (intro w' hSw; (try dsimp only at hSw); go_simp; try (with_reducible rfl))
          try simp only [Act.put, List.setIfInBounds_toArray, List.set_cons_zero, List.set_cons_succ]
          refine AnyL.take 34 (v := ?_) rfl (by kernel_rfl) (by kernel_rfl) (by kernel_rfl) (by kernel_rfl) (fun _ _ _ h => h) (by assumption) (Or.inl ⟨by rfl, ?_⟩) ?_
          rotate_left
          · (intro w' hSw; (try dsimp only at hSw); go_simp; try (with_reducible rfl))
          try simp only [Act.put, List.setIfInBounds_toArray, List.set_cons_zero, List.set_cons_succ]
          refine AnyL.take 35 (v := ?_) rfl (by kernel_rfl) (by kernel_rfl) (by kernel_rfl) (by kernel_rfl) (fun _ _ _ h => h) (by assumption) (Or.inl ⟨by rfl, ?_⟩) ?_
          rotate_left
          · (intro w' hSw; (try dsimp only at hSw); go_simp; try (with_reducible rfl))
          try simp only [Act.put, List.setIfInBounds_toArray, List.set_cons_zero, List.set_cons_succ]
          have c1y := oz2.heap HC1.out (by simp)
          have c2y := oz2.heap HC2.out (by simp)
          refine AnyL.one 36 (by kernel_rfl) rfl (fun K hK => ?_)
          rw [if_pos (by rfl)]
          refine wp_store_row _ _ _ rfl wo.heap.size #[.int .i64 a0, .int .i64 a1, .int .i64 a2, .int .i64 a3] rfl rfl _ _ c1y hi4 rfl (by simp [Value.oneCell']) ?_
          rw [setRow_self _ _ _ _ _ c1y]
          refine hK _ _ (fun _ => hSy) (fun _ => ?_)
          clear hK K
          try simp only [Act.put]
          refine AnyL.one 37 (by kernel_rfl) rfl (fun K hK => ?_)
          rw [if_pos (by rfl)]
          refine wp_store_row _ _ _ rfl (wo.heap.size + 1) #[.int .i64 b0, .int .i64 b1, .int .i64 b2, .int .i64 b3] rfl rfl _ _ c2y hi4 rfl (by simp [Value.oneCell']) ?_
          rw [setRow_self _ _ _ _ _ c2y]
          refine hK _ _ (fun h => (h rfl).elim) (fun _ => ?_)
          clear hK K
          try simp only [Act.put]
          refine AnyL.done (by kernel_rfl) ?_ _
          have D1 := Lib.hid c1y
          have D2 := Lib.hid c2y
          have DO := Lib.hid (HOQ.out.trans oz2)
          clear c1y c2y oz oy oz2 hSz hSy hS0 t1 t2 x1 x2 x3 x4 x5 y1 y2 y3 y4 hF2 hF3 hP2 hQ2 ow HC1 HC2 HOQ
          go_wp2
          go_loopw [104] (fun q wq => ∃ k : Nat, k ≤ 3 ∧ q = .int .i64 k ∧ wq.heap[wo.heap.size]? = some (.cells #[.int .i64 a0, .int .i64 a1, .int .i64 a2, .int .i64 a3] 218 (0, 0)) ∧ wq.heap[wo.heap.size + 1]? = some (.cells #[.int .i64 b0, .int .i64 b1, .int .i64 b2, .int .i64 b3] 218 (0, 0)) ∧ Only [] wo wq) (fun q _ => 3 - (intOf q).toNat)
          case atStart => exact ⟨0, by omega, rfl, D1.out, D2.out, DO.out⟩
          case round =>
            clear D1 D2 DO
            obtain ⟨k, hk, rfl, hc1, hc2, hoq⟩ := hrel
            rename World => wl
            by_cases hk3 : k < 3
            · have hk4 : k < 4 := by omega
              have hk4i : (k : Int) < 4 := by omega
              have hio := Hino.out k hk4
              obtain ⟨k1, hk1⟩ : ∃ k1 : Nat, k1 = k + 1 := ⟨_, rfl⟩
              obtain ⟨m1, hm1⟩ : ∃ m1 : Nat, m1 = k1 * across := ⟨_, rfl⟩
              obtain ⟨m2, hm2⟩ : ∃ m2 : Nat, m2 = k * across := ⟨_, rfl⟩
              obtain ⟨ia, hia⟩ : ∃ ia : Nat, ia = o - m1 := ⟨_, rfl⟩
              obtain ⟨ib, hib⟩ : ∃ ib : Nat, ib = o + m2 := ⟨_, rfl⟩
              rw [← hk1, ← hm1, ← hm2, ← hib] at hio
              have r0 : IntKind.i64.wrap ((k : Int) + 1) = (k1 : Int) := by rw [show (k : Int) + 1 = (k1 : Int) by omega]; exact i64n _ (by omega)
              have r1 : IntKind.i64.wrap ((k1 : Int) * across) = (m1 : Int) := by rw [← Int.natCast_mul, ← hm1]; exact i64n _ (by omega)
              have r2 : IntKind.i64.wrap ((o : Int) - m1) = (ia : Int) := by rw [show (o : Int) - m1 = (ia : Int) by omega]; exact i64n _ (by omega)
              have r3 : IntKind.i64.wrap ((k : Int) * across) = (m2 : Int) := by rw [← Int.natCast_mul, ← hm2]; exact i64n _ (by omega)
              have r4 : IntKind.i64.wrap ((o : Int) + m2) = (ib : Int) := by rw [← Int.natCast_add, ← hib]; exact i64n _ (by omega)
              obtain ⟨a, ha⟩ : ∃ a : Int, a = sideP Y o across k := ⟨_, rfl⟩
              obtain ⟨b, hb⟩ : ∃ b : Int, b = sideQ Y o across k := ⟨_, rfl⟩
              have la : ia < len := by omega
              have lb1 : ib < len := hio.2
              have cA0 : wo.cell? ⟨g, ia, none⟩ = some (.int .u8 a) := by rw [ha, sideP, ← hk1, ← hm1, ← hia]; exact (HY.out.only WO.out (by simp)).at ia (by rw [← Hlen.out]; exact la)
              have cB0 : wo.cell? ⟨g, ib, none⟩ = some (.int .u8 b) := by rw [hb, sideQ, ← hm2, ← hib]; exact (HY.out.only WO.out (by simp)).at ib (by rw [← Hlen.out]; exact lb1)
              have cS0 : wo.cell? ⟨fb, po, none⟩ = some (.slice (some ⟨g, 0, none⟩) len cap) := WO.out.cell HPS.out (by simp)
              have ra : 0 ≤ a ∧ a ≤ 255 := by rw [ha]; exact HY.out.ok _
              have rb : 0 ≤ b ∧ b ≤ 255 := by rw [hb]; exact HY.out.ok _
              have va : IntKind.i64.wrap a = a := i64w _ (by omega) (by omega)
              have vb : IntKind.i64.wrap b = b := i64w _ (by omega) (by omega)
              have Hk1 := Lib.hid hk1
              have HIA : Hid (a = Y.getD ia 0 ∧ b = Y.getD ib 0) := Lib.hid ⟨by rw [ha, sideP, ← hk1, ← hm1, ← hia], by rw [hb, sideQ, ← hm2, ← hib]⟩
              clear hk1 hm1 hm2 hia hib
              have cK1 : wl.cell? ⟨wo.heap.size, k, none⟩ = some (.int .i64 a) := by
                rw [cells_of hc1, ha]
                have h3 : k = 0 ∨ k = 1 ∨ k = 2 := by clear ra rb la lb1 hio; omega
                rcases h3 with rfl | rfl | rfl
                · rw [← HA.out.1]; rfl
                · rw [← HA.out.2.1]; rfl
                · rw [← HA.out.2.2]; rfl
              have cK2 : wl.cell? ⟨wo.heap.size + 1, k, none⟩ = some (.int .i64 b) := by
                rw [cells_of hc2, hb]
                have h3 : k = 0 ∨ k = 1 ∨ k = 2 := by clear ra rb la lb1 hio; omega
                rcases h3 with rfl | rfl | rfl
                · rw [← HB.out.1]; rfl
                · rw [← HB.out.2.1]; rfl
                · rw [← HB.out.2.2]; rfl
              have hyl := (HY.out.only WO.out (by simp)).only hoq (by simp)
              have se1 : wl.setCell ⟨g, ia, none⟩ (.int .u8 a) = wl := by have := hyl.same ia (by rw [← Hlen.out]; exact la); rwa [← HIA.out.1] at this
              have se2 : wl.setCell ⟨g, ib, none⟩ (.int .u8 b) = wl := by have := hyl.same ib (by rw [← Hlen.out]; exact lb1); rwa [← HIA.out.2] at this
              have cS : wl.cell? ⟨fb, po, none⟩ = some (.slice (some ⟨g, 0, none⟩) len cap) := hoq.cell cS0 (by simp)
              have cA : wl.cell? ⟨g, ia, none⟩ = some (.int .u8 a) := hoq.cell cA0 (by simp)
              have cB : wl.cell? ⟨g, ib, none⟩ = some (.int .u8 b) := hoq.cell cB0 (by simp)
              have za := hyl.free ia
              have zb := hyl.free ib
              have ua : IntKind.u8.wrap a = a := u8w a ra.1 ra.2
              have ub : IntKind.u8.wrap b = b := u8w b rb.1 rb.2
              have hdr : wl.drew.cell? ⟨fb, po, none⟩ = some (.slice (some ⟨g, 0, none⟩) len cap) ∧ wl.drew.cell? ⟨wo.heap.size, k, none⟩ = some (.int .i64 a) ∧ wl.drew.cell? ⟨wo.heap.size + 1, k, none⟩ = some (.int .i64 b) := ⟨cS, cK1, cK2⟩
              have HDR := Lib.hid hdr
              have E1 := Lib.hid hc1
              have E2 := Lib.hid hc2
              have EO := Lib.hid hoq
              clear hdr hc1 hc2 hoq hyl cS0 cA0 cB0 ha hb hio
              go_wp2_with fail
              refine wp_region_L (by kernel_rfl) (fun w' => w'.cell? ⟨fb, po, none⟩ = some (.slice (some ⟨g, 0, none⟩) len cap) ∧ w'.cell? ⟨wo.heap.size, k, none⟩ = some (.int .i64 a) ∧ w'.cell? ⟨wo.heap.size + 1, k, none⟩ = some (.int .i64 b)) 30 ?_
              have hS0 : (fun w' => w'.cell? ⟨fb, po, none⟩ = some (.slice (some ⟨g, 0, none⟩) len cap) ∧ w'.cell? ⟨wo.heap.size, k, none⟩ = some (.int .i64 a) ∧ w'.cell? ⟨wo.heap.size + 1, k, none⟩ = some (.int .i64 b)) wl.drew := HDR.out
              refine AnyL.take 0 (v := ?_) rfl (by kernel_rfl) (by kernel_rfl) (by kernel_rfl) (by kernel_rfl) (fun _ _ _ h => h) (by assumption) (Or.inl ⟨by rfl, ?_⟩) ?_
              rotate_left
              · (intro w' hSw; (try dsimp only at hSw); go_simp; try (with_reducible rfl))
              try simp only [Act.put, List.setIfInBounds_toArray, List.set_cons_zero, List.set_cons_succ]
              refine AnyL.take 1 (v := ?_) rfl (by kernel_rfl) (by kernel_rfl) (by kernel_rfl) (by kernel_rfl) (fun _ _ _ h => h) (by assumption) (Or.inl ⟨by rfl, ?_⟩) ?_
              rotate_left
              · (intro w' hSw; (try dsimp only at hSw); go_simp; try (with_reducible rfl))
              try simp only [Act.put, List.setIfInBounds_toArray, List.set_cons_zero, List.set_cons_succ]
              refine AnyL.take 2 (v := ?_) rfl (by kernel_rfl) (by kernel_rfl) (by kernel_rfl) (by kernel_rfl) (fun _ _ _ h => h) (by assumption) (Or.inl ⟨by rfl, ?_⟩) ?_
              rotate_left
              · (intro w' hSw; (try dsimp only at hSw); go_simp; try (with_reducible rfl))
              try simp only [Act.put, List.setIfInBounds_toArray, List.set_cons_zero, List.set_cons_succ]
              refine AnyL.take 3 (v := ?_) rfl (by kernel_rfl) (by kernel_rfl) (by kernel_rfl) (by kernel_rfl) (fun _ _ _ h => h) (by assumption) (Or.inl ⟨by rfl, ?_⟩) ?_
              rotate_left
              · (intro w' hSw; (try dsimp only at hSw); go_simp; try (with_reducible rfl))
              try simp only [Act.put, List.setIfInBounds_toArray, List.set_cons_zero, List.set_cons_succ]
              refine AnyL.take 4 (v := ?_) rfl (by kernel_rfl) (by kernel_rfl) (by kernel_rfl) (by kernel_rfl) (fun _ _ _ h => h) (by assumption) (Or.inl ⟨by rfl, ?_⟩) ?_
              rotate_left
              · (intro w' hSw; (try dsimp only at hSw); go_simp; try (with_reducible rfl))
              try simp only [Act.put, List.setIfInBounds_toArray, List.set_cons_zero, List.set_cons_succ]
              refine AnyL.take 5 (v := ?_) rfl (by kernel_rfl) (by kernel_rfl) (by kernel_rfl) (by kernel_rfl) (fun _ _ _ h => h) (by assumption) (Or.inl ⟨by rfl, ?_⟩) ?_
              rotate_left
              · (intro w' hSw; (try dsimp only at hSw); go_simp; try (with_reducible rfl))
              try simp only [Act.put, List.setIfInBounds_toArray, List.set_cons_zero, List.set_cons_succ]
              refine AnyL.take 6 (v := ?_) rfl (by kernel_rfl) (by kernel_rfl) (by kernel_rfl) (by kernel_rfl) (fun _ _ _ h => h) (by assumption) (Or.inl ⟨by rfl, ?_⟩) ?_
              rotate_left
              · (intro w' hSw; (try dsimp only at hSw); go_simp; try (with_reducible rfl))
              try simp only [Act.put, List.setIfInBounds_toArray, List.set_cons_zero, List.set_cons_succ]
              refine AnyL.take 7 (v := ?_) rfl (by kernel_rfl) (by kernel_rfl) (by kernel_rfl) (by kernel_rfl) (fun _ _ _ h => h) (by assumption) (Or.inl ⟨by rfl, ?_⟩) ?_
              rotate_left
              · (intro w' hSw; (try dsimp only at hSw); go_simp; try (with_reducible rfl))
              try simp only [Act.put, List.setIfInBounds_toArray, List.set_cons_zero, List.set_cons_succ]
              refine AnyL.take 8 (v := ?_) rfl (by kernel_rfl) (by kernel_rfl) (by kernel_rfl) (by kernel_rfl) (fun _ _ _ h => h) (by assumption) (Or.inl ⟨by rfl, ?_⟩) ?_
              rotate_left
              · (intro w' hSw; (try dsimp only at hSw); go_simp; try (with_reducible rfl))
              try simp only [Act.put, List.setIfInBounds_toArray, List.set_cons_zero, List.set_cons_succ]
              refine AnyL.take 9 (v := ?_) rfl (by kernel_rfl) (by kernel_rfl) (by kernel_rfl) (by kernel_rfl) (fun _ _ _ h => h) (by assumption) (Or.inl ⟨by rfl, ?_⟩) ?_
              rotate_left
              · (intro w' hSw; (try dsimp only at hSw); go_simp; try (with_reducible rfl))
              try simp only [Act.put, List.setIfInBounds_toArray, List.set_cons_zero, List.set_cons_succ]
              refine AnyL.take 10 (v := ?_) rfl (by kernel_rfl) (by kernel_rfl) (by kernel_rfl) (by kernel_rfl) (fun _ _ _ h => h) (by assumption) (Or.inl ⟨by rfl, ?_⟩) ?_
              rotate_left
              · (intro w' hSw; (try dsimp only at hSw); go_simp; try (with_reducible rfl))
              try simp only [Act.put, List.setIfInBounds_toArray, List.set_cons_zero, List.set_cons_succ]
              refine AnyL.take 11 (v := ?_) rfl (by kernel_rfl) (by kernel_rfl) (by kernel_rfl) (by kernel_rfl) (fun _ _ _ h => h) (by assumption) (Or.inl ⟨by rfl, ?_⟩) ?_
              rotate_left
              · (intro w' hSw; (try dsimp only at hSw); go_simp; try (with_reducible rfl))
              try simp only [Act.put, List.setIfInBounds_toArray, List.set_cons_zero, List.set_cons_succ]
              refine AnyL.take 12 (v := ?_) rfl (by kernel_rfl) (by kernel_rfl) (by kernel_rfl) (by kernel_rfl) (fun _ _ _ h => h) (by assumption) (Or.inl ⟨by rfl, ?_⟩) ?_
              rotate_left
              · (intro w' hSw; (try dsimp only at hSw); go_simp; try (with_reducible rfl))
              try simp only [Act.put, List.setIfInBounds_toArray, List.set_cons_zero, List.set_cons_succ]
              refine AnyL.take 13 (v := ?_) rfl (by kernel_rfl) (by kernel_rfl) (by kernel_rfl) (by kernel_rfl) (fun _ _ _ h => h) (by assumption) (Or.inl ⟨by rfl, ?_⟩) ?_
              rotate_left
              · (intro w' hSw; (try dsimp only at hSw); go_simp; try (with_reducible rfl))
              try simp only [Act.put, List.setIfInBounds_toArray, List.set_cons_zero, List.set_cons_succ]
              refine AnyL.take 14 (v := ?_) rfl (by kernel_rfl) (by kernel_rfl) (by kernel_rfl) (by kernel_rfl) (fun _ _ _ h => h) (by assumption) (Or.inl ⟨by rfl, ?_⟩) ?_
              rotate_left
              · (intro w' hSw; (try dsimp only at hSw); go_simp; try (with_reducible rfl))
              try simp only [Act.put, List.setIfInBounds_toArray, List.set_cons_zero, List.set_cons_succ]
              refine AnyL.take 15 (v := ?_) rfl (by kernel_rfl) (by kernel_rfl) (by kernel_rfl) (by kernel_rfl) (fun _ _ _ h => h) (by assumption) (Or.inl ⟨by rfl, ?_⟩) ?_
              rotate_left
              · (intro w' hSw; (try dsimp only at hSw); go_simp; try (with_reducible rfl))
              try simp only [Act.put, List.setIfInBounds_toArray, List.set_cons_zero, List.set_cons_succ]
              refine AnyL.take 16 (v := ?_) rfl (by kernel_rfl) (by kernel_rfl) (by kernel_rfl) (by kernel_rfl) (fun _ _ _ h => h) (by assumption) (Or.inl ⟨by rfl, ?_⟩) ?_
              rotate_left
              · (intro w' hSw; (try dsimp only at hSw); go_simp; try (with_reducible rfl))
              try simp only [Act.put, List.setIfInBounds_toArray, List.set_cons_zero, List.set_cons_succ]
              refine AnyL.take 17 (v := ?_) rfl (by kernel_rfl) (by kernel_rfl) (by kernel_rfl) (by kernel_rfl) (fun _ _ _ h => h) (by assumption) (Or.inl ⟨by rfl, ?_⟩) ?_
              rotate_left
              · (intro w' hSw; (try dsimp only at hSw); go_simp; try (with_reducible rfl))
              try simp only [Act.put, List.setIfInBounds_toArray, List.set_cons_zero, List.set_cons_succ]
              refine AnyL.take 18 (v := ?_) rfl (by kernel_rfl) (by kernel_rfl) (by kernel_rfl) (by kernel_rfl) (fun _ _ _ h => h) (by assumption) (Or.inl ⟨by rfl, ?_⟩) ?_
              rotate_left
              · (intro w' hSw; (try dsimp only at hSw); go_simp; try (with_reducible rfl))
              try simp only [Act.put, List.setIfInBounds_toArray, List.set_cons_zero, List.set_cons_succ]
              refine AnyL.take 19 (v := ?_) rfl (by kernel_rfl) (by kernel_rfl) (by kernel_rfl) (by kernel_rfl) (fun _ _ _ h => h) (by assumption) (Or.inl ⟨by rfl, ?_⟩) ?_
              rotate_left
              · (intro w' hSw; (try dsimp only at hSw); go_simp; try (with_reducible rfl))
              try simp only [Act.put, List.setIfInBounds_toArray, List.set_cons_zero, List.set_cons_succ]
              refine AnyL.take 20 (v := ?_) rfl (by kernel_rfl) (by kernel_rfl) (by kernel_rfl) (by kernel_rfl) (fun _ _ _ h => h) (by assumption) (Or.inl ⟨by rfl, ?_⟩) ?_
              rotate_left
              · (intro w' hSw; (try dsimp only at hSw); go_simp; try (with_reducible rfl))
              try simp only [Act.put, List.setIfInBounds_toArray, List.set_cons_zero, List.set_cons_succ]
              refine AnyL.take 21 (v := ?_) rfl (by kernel_rfl) (by kernel_rfl) (by kernel_rfl) (by kernel_rfl) (fun _ _ _ h => h) (by assumption) (Or.inl ⟨by rfl, ?_⟩) ?_
              rotate_left
              · (intro w' hSw; (try dsimp only at hSw); go_simp; try (with_reducible rfl))
              try simp only [Act.put, List.setIfInBounds_toArray, List.set_cons_zero, List.set_cons_succ]
              refine AnyL.take 22 (v := ?_) rfl (by kernel_rfl) (by kernel_rfl) (by kernel_rfl) (by kernel_rfl) (fun _ _ _ h => h) (by assumption) (Or.inl ⟨by rfl, ?_⟩) ?_
              rotate_left
              · (intro w' hSw; (try dsimp only at hSw); go_simp; try (with_reducible rfl))
              try simp only [Act.put, List.setIfInBounds_toArray, List.set_cons_zero, List.set_cons_succ]
              refine AnyL.take 23 (v := ?_) rfl (by kernel_rfl) (by kernel_rfl) (by kernel_rfl) (by kernel_rfl) (fun _ _ _ h => h) (by assumption) (Or.inl ⟨by rfl, ?_⟩) ?_
              rotate_left
              · (intro w' hSw; (try dsimp only at hSw); go_simp; try (with_reducible rfl))
              try simp only [Act.put, List.setIfInBounds_toArray, List.set_cons_zero, List.set_cons_succ]
              refine AnyL.take 24 (v := ?_) rfl (by kernel_rfl) (by kernel_rfl) (by kernel_rfl) (by kernel_rfl) (fun _ _ _ h => h) (by assumption) (Or.inl ⟨by rfl, ?_⟩) ?_
              rotate_left
              · (intro w' hSw; (try dsimp only at hSw); go_simp; try (with_reducible rfl))
              try simp only [Act.put, List.setIfInBounds_toArray, List.set_cons_zero, List.set_cons_succ]
              refine AnyL.take 25 (v := ?_) rfl (by kernel_rfl) (by kernel_rfl) (by kernel_rfl) (by kernel_rfl) (fun _ _ _ h => h) (by assumption) (Or.inl ⟨by rfl, ?_⟩) ?_
              rotate_left
              · (intro w' hSw; (try dsimp only at hSw); go_simp; try (with_reducible rfl))
              try simp only [Act.put, List.setIfInBounds_toArray, List.set_cons_zero, List.set_cons_succ]
              refine AnyL.take 26 (v := ?_) rfl (by kernel_rfl) (by kernel_rfl) (by kernel_rfl) (by kernel_rfl) (fun _ _ _ h => h) (by assumption) (Or.inl ⟨by rfl, ?_⟩) ?_
              rotate_left
              · (intro w' hSw; (try dsimp only at hSw); go_simp; try (with_reducible rfl))
              try simp only [Act.put, List.setIfInBounds_toArray, List.set_cons_zero, List.set_cons_succ]
              refine AnyL.take 27 (v := ?_) rfl (by kernel_rfl) (by kernel_rfl) (by kernel_rfl) (by kernel_rfl) (fun _ _ _ h => h) (by assumption) (Or.inl ⟨by rfl, ?_⟩) ?_
              rotate_left
              · (intro w' hSw; (try dsimp only at hSw); go_simp; try (with_reducible rfl))
              try simp only [Act.put, List.setIfInBounds_toArray, List.set_cons_zero, List.set_cons_succ]
              refine AnyL.one 28 (by kernel_rfl) rfl (fun K hK => ?_)
              go_simp
              refine hK _ _ (fun _ => HDR.out) (fun _ => ?_)
              clear hK K
              try simp only [Act.put, List.setIfInBounds_toArray, List.set_cons_zero, List.set_cons_succ]
              refine AnyL.take 29 (v := ?_) rfl (by kernel_rfl) (by kernel_rfl) (by kernel_rfl) (by kernel_rfl) (fun _ _ _ h => h) (by assumption) (Or.inl ⟨by rfl, ?_⟩) ?_
              rotate_left
              · (intro w' hSw; (try dsimp only at hSw); go_simp; try (with_reducible rfl))
              try simp only [Act.put, List.setIfInBounds_toArray, List.set_cons_zero, List.set_cons_succ]
              refine AnyL.one 30 (by kernel_rfl) rfl (fun K hK => ?_)
              go_simp
              refine hK _ _ (fun h => (h rfl).elim) (fun _ => ?_)
              clear hK K hS0
              try simp only [Act.put, List.setIfInBounds_toArray, List.set_cons_zero, List.set_cons_succ]
              refine AnyL.done (by kernel_rfl) ?_ _
              go_wp2
              go_roundw
              case rel =>
                have hkk := Hk1.out
                subst hkk
                exact ⟨k + 1, by omega, by go_num, E1.out, E2.out, EO.out.drew⟩
              case measure => have hkk := Hk1.out; subst hkk; simp [intOf] <;> omega
            · obtain rfl : k = 3 := by omega
              have EO := Lib.hid (WO.out.trans hoq)
              have E1 := Lib.hid (hoq.heap WB1.out (by simp))
              have E2 := Lib.hid (hoq.heap WB2.out (by simp))
              clear hc1 hc2 hoq
              go_wp2
              go_roundw
              case rel => exact ⟨i + 1, by omega, by go_num, E1.out, E2.out, EO.out⟩
              case measure => simp [intOf] <;> omega
    · obtain rfl : i = n := by omega
      have WO := Lib.hid ho
      clear ho hb1 hb2
      go_wp2
      go_end0
      exact ⟨rfl, WO.out⟩
end Go.Proofs.YtcmehedjdfopdaaGreat
