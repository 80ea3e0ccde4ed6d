/-
  The walk over package xform's rows, for blocks of the lowest coefficient alone.
-/
import Derived.Test.YtcmehedjdfopdaaGreatJ03
namespace Go.Proofs.YtcmehedjdfopdaaGreat
open Go.RowKit

theorem heap_alloc_drew (w : World) (x : Obj) : (w.alloc x).drew.heap[w.heap.size]? = some x := heap_alloc_at w x
theorem only_alloc_drew (w : World) (x : Obj) : Only [] w (w.alloc x).drew := ((Only.refl [] w).alloc x).drew
theorem cell_set {w : World} {p a : Addr} {v u : Value} (h : w.cell? p = some v) (hb : p.block ≠ a.block) : (w.setCell a u).cell? p = some v := ((Only.refl [a.block] w).setCell (.inl (by simp)) u).cell h (by simpa using hb)
theorem cell_alloc {w : World} {p : Addr} {v : Value} {o : Obj} (h : w.cell? p = some v) : (w.alloc o).cell? p = some v := ((Only.refl [] w).alloc o).cell h (by simp)
theorem cell_drew {w : World} {p : Addr} {v : Value} (h : w.cell? p = some v) : w.drew.cell? p = some v := h
def inTo (d : Int) (i k : Nat) : List Int := (List.range 16).map fun j => if j < 4 ∨ j % 4 < i ∨ (j % 4 = i ∧ j / 4 < k) then d else 0
theorem inTo_length (d : Int) (i k : Nat) : (inTo d i k).length = 16 := by simp [inTo]
theorem inTo_set (d : Int) (i k : Nat) (hi : i < 4) (hk : k < 4) : (inTo d i k).set (4 * k + i) d = inTo d i (k + 1) := by
  rcases (show i = 0 ∨ i = 1 ∨ i = 2 ∨ i = 3 by omega) with rfl | rfl | rfl | rfl <;> rcases (show k = 0 ∨ k = 1 ∨ k = 2 ∨ k = 3 by omega) with rfl | rfl | rfl | rfl <;> rfl
theorem inTo_next (d : Int) (i : Nat) (hi : i < 4) : inTo d i 4 = inTo d (i + 1) 0 := by
  rcases (show i = 0 ∨ i = 1 ∨ i = 2 ∨ i = 3 by omega) with rfl | rfl | rfl | rfl <;> rfl
theorem inTo_cells (d : Int) (i : Nat) (hi : i < 4) : (inTo d i 0).getD i 0 = d ∧ (inTo d i 0).getD (4 + i) 0 = 0 ∧ (inTo d i 0).getD (8 + i) 0 = 0 ∧ (inTo d i 0).getD (12 + i) 0 = 0 := by
  rcases (show i = 0 ∨ i = 1 ∨ i = 2 ∨ i = 3 by omega) with rfl | rfl | rfl | rfl <;> exact ⟨rfl, rfl, rfl, rfl⟩
theorem inTo_full (d : Int) : inTo d 4 0 = List.replicate 16 d := rfl
theorem row_news {w : World} {g : Nat} {xs : List Int} {t : TypeId} (h : w.heap[g]? = some (.cells (ints xs) t (0, 0))) : ∀ j v, (xs.map (Value.int .i64))[j]? = some v → w.cell? ((⟨g, 0, none⟩ : Addr).add j) = some v := by
  intro j v hj
  rw [Addr.add_lit, Nat.zero_add, cells_of h]
  simpa [ints] using hj
theorem splice_ints (ys xs : List Int) (o : Nat) : ((ints ys).toList.take o ++ (xs.map (Value.int .i64) ++ (ints ys).toList.drop (o + (xs.map (Value.int .i64)).length))).toArray = ints (ys.take o ++ (xs ++ ys.drop (o + xs.length))) := by
  simp [ints, List.map_take, List.map_drop]
theorem ints_oneCell' (xs : List Int) : ∀ v ∈ xs.map (Value.int .i64), v.oneCell' = true := by
  intro v hv
  obtain ⟨x, -, rfl⟩ := List.mem_map.1 hv
  rfl
/-- Behind the first row. -/
def rowL (d : Int) : List Int := [d, d, d, d, 0, 0, 0, 0, 0, 0, 0, 0, 0, 0, 0, 0]
def rowsTo (d : Int) (k : Nat) : List Int := if k = 0 then dcL d else rowL d
def colsTo (d : Int) (k : Nat) : List Int := (List.range 16).map fun i => if i < 4 ∨ i % 4 < k then d else 0

set_option maxRecDepth 100000 in
set_option maxHeartbeats 3200000 in
theorem xf_rows (F : Nat) (d : Int) (w : World) (hent : ∀ (c : Array Value) (w : World), (callFunc F c).run Tryz.prog w = .ok (.enter F c) w) (hF : ∀ (x : Int) (w : World), (x = d ∨ x = 0) → Calls Tryz.prog F #[.agg #[.int .i64 x, .int .i64 0, .int .i64 0, .int .i64 0]] w fun e w' => e = .returned (.agg #[.int .i64 x, .int .i64 x, .int .i64 x, .int .i64 x]) ∧ Only [] w w') :
    Calls Tryz.prog 159 #[.agg (ints (dcL d)), .func (.func F) #[] #[]] w fun e w' => e = .returned (.agg (ints (List.replicate 16 d))) ∧ Only [] w w' := by
  have HF := Lib.hid hF
  clear hF
  go_enter Tryz.func159, Tryz.ntmps159
  go_wp2
  go_loopw [9] (fun q wr => ∃ k : Nat, k ≤ 4 ∧ q = .int .i64 k ∧ wr.heap[w.heap.size]? = some (.cells (ints (rowsTo d k)) 36 (0, 0)) ∧ (∃ z : Array Value, z.size = 16 ∧ wr.heap[w.heap.size + 1]? = some (.cells z 36 (0, 0))) ∧ Only [] w wr) (fun q _ => 4 - (intOf q).toNat)
  case atStart => exact ⟨0, by omega, rfl, heap_alloc_lt _ (heap_alloc_at w _), ⟨_, rfl, heap_alloc2_new _ _ _⟩, ((Only.refl _ _).alloc _).alloc _⟩
  case round =>
    obtain ⟨k, hk, rfl, hb, ⟨z, hz, hr⟩, ho⟩ := hrel
    by_cases hlt : k < 4
    · have hx : ∃ x, (x = d ∨ x = 0) ∧ (rowsTo d k).getD (4 * k) 0 = x ∧ (rowsTo d k).getD (4 * k + 1) 0 = 0 ∧ (rowsTo d k).getD (4 * k + 2) 0 = 0 ∧ (rowsTo d k).getD (4 * k + 3) 0 = 0 ∧
          ((rowsTo d k).take (4 * k) ++ ([x, x, x, x] ++ (rowsTo d k).drop (4 * k + 4))) = rowsTo d (k + 1) ∧ (rowsTo d k).length = 16 := by
        rcases (show k = 0 ∨ k = 1 ∨ k = 2 ∨ k = 3 by omega) with rfl | rfl | rfl | rfl
        · exact ⟨d, .inl rfl, rfl, rfl, rfl, rfl, rfl, rfl⟩
        · exact ⟨0, .inr rfl, rfl, rfl, rfl, rfl, rfl, rfl⟩
        · exact ⟨0, .inr rfl, rfl, rfl, rfl, rfl, rfl, rfl⟩
        · exact ⟨0, .inr rfl, rfl, rfl, rfl, rfl, rfl, rfl⟩
      obtain ⟨x, hxd, x0, x1, x2, x3, hnew, hlen⟩ := hx
      obtain ⟨R, hR⟩ : ∃ R, R = rowsTo d (k + 1) := ⟨_, rfl⟩
      rw [← hR] at hnew
      have HR := Lib.hid hR
      have hc : ∀ i, i < 4 → wr.cell? ⟨w.heap.size, 4 * k + i, none⟩ = some (.int .i64 ((rowsTo d k).getD (4 * k + i) 0)) := fun i hi => by
        rw [cells_of hb, ints_at _ _ (by omega)]
      have e0 := hc 0 (by omega)
      have e1 := hc 1 (by omega)
      have e2 := hc 2 (by omega)
      have e3 := hc 3 (by omega)
      rw [Nat.add_zero, x0] at e0
      rw [x1] at e1
      rw [x2] at e2
      rw [x3] at e3
      have Hb := Lib.hid hb
      have Hr := Lib.hid hr
      have Ho := Lib.hid ho
      have Hnew := Lib.hid hnew
      have Hlen := Lib.hid hlen
      clear hc x0 x1 x2 x3 hb hr ho hnew hlen hR
      have hws := lt_of_block Hb.out
      rcases (show k = 0 ∨ k = 1 ∨ k = 2 ∨ k = 3 by omega) with rfl | rfl | rfl | rfl
      all_goals
        simp only [Nat.reduceMul, Nat.reduceAdd, Nat.mul_zero, Nat.zero_add] at e0 e1 e2 e3
        go_wp2
        have hat : ∀ (ad : Option Addr) (cap : Nat) (w : World), (Instr.arrayAt 218 (.slice ad 4 cap)).run Tryz.prog w = .ok (.pointer ad) w := fun ad cap w => run_arrayAt w 218 3 4 ad 4 cap Tryz.underlying218 (Nat.le_refl _)
        have q0 : IntKind.i64.wrap 0 = 0 := by decide
        have q4 : IntKind.i64.wrap 4 = 4 := by decide
        have q8 : IntKind.i64.wrap 8 = 8 := by decide
        have q12 : IntKind.i64.wrap 12 = 12 := by decide
        have q16 : IntKind.i64.wrap 16 = 16 := by decide
        go_region_law (first
          | (go_simp; refine (HF.out x _ hxd).mono ?_; rintro r w2 ⟨rfl, g1⟩; have O2 : Hid (Only [] wr w2) := Lib.hid ((Only.refl [] wr).drew.trans g1); clear g1)
          | (go_simp; go_at_call 181; refine (xf_sliced x x x x _).mono ?_; rintro r w3 ⟨rfl, g1, g2⟩; have C3 := Lib.hid g1; have O3 := Lib.hid (O2.out.trans g2); have B3 := Lib.hid (O3.out.heap Hb.out (by simp)); clear g1 g2)
          | (refine step_copy_block rfl _ _ _ _ rfl 3 Tryz.underlying58 (by kernel_rfl) w.heap.size _ _ _ ⟨w2.heap.size, 0, none⟩ 4 4 (by rfl) (by rfl) _ _ B3.out ([x, x, x, x].map (Value.int .i64)) (by rfl) (row_news C3.out) (by rw [ints_size, Hlen.out]; simp) (ints_oneCell' _) ?_
             intro w4 hw4 ho4))
        have h5 : w4.heap[w.heap.size]? = some (.cells (ints R) 36 (0, 0)) := by rw [hw4, splice_ints, ← Hnew.out]; rfl
        have H5 := Lib.hid h5
        have R5 := Lib.hid ((ho4.heap (O3.out.heap Hr.out (by simp))) (by simp))
        have O5 := Lib.hid ((Ho.out.trans O3.out).trans' ho4 (by simp))
        clear hw4 ho4 h5
        go_wp2
        go_roundw
        case rel => first
          | exact ⟨1, by omega, rfl, by rw [H5.out, HR.out], ⟨z, hz, R5.out⟩, O5.out⟩
          | exact ⟨2, by omega, rfl, by rw [H5.out, HR.out], ⟨z, hz, R5.out⟩, O5.out⟩
          | exact ⟨3, by omega, rfl, by rw [H5.out, HR.out], ⟨z, hz, R5.out⟩, O5.out⟩
          | exact ⟨4, by omega, rfl, by rw [H5.out, HR.out], ⟨z, hz, R5.out⟩, O5.out⟩
        case measure => simp [intOf] <;> omega
    · obtain rfl : k = 4 := by omega
      have Hb := Lib.hid hb
      have Hr := Lib.hid hr
      have Ho := Lib.hid ho
      clear hb hr ho
      go_wp2
      go_loopw [28] (fun q ws => ∃ i : Nat, i ≤ 4 ∧ q = .int .i64 i ∧ ws.heap[w.heap.size]? = some (.cells (ints (inTo d i 0)) 36 (0, 0)) ∧ (∃ z : Array Value, z.size = 16 ∧ ws.heap[w.heap.size + 1]? = some (.cells z 36 (0, 0))) ∧ Only [] w ws) (fun q _ => 4 - (intOf q).toNat)
      case atStart => exact ⟨0, by omega, rfl, Hb.out, ⟨z, hz, Hr.out⟩, Ho.out⟩
      case round =>
        obtain ⟨i, hi, rfl, hb, ⟨z2, hz2, hr⟩, ho⟩ := hrel
        by_cases hlt2 : i < 4
        · obtain ⟨x0, x1, x2, x3⟩ := inTo_cells d i hlt2
          have hc : ∀ j, j < 16 → wr.cell? ⟨w.heap.size, j, none⟩ = some (.int .i64 ((inTo d i 0).getD j 0)) := fun j hj => by
            rw [cells_of hb, ints_at _ _ (by rw [inTo_length]; exact hj)]
          have e0 := hc i (by omega)
          have e1 := hc (4 + i) (by omega)
          have e2 := hc (8 + i) (by omega)
          have e3 := hc (12 + i) (by omega)
          rw [x0] at e0
          rw [x1] at e1
          rw [x2] at e2
          rw [x3] at e3
          have Hb2 := Lib.hid hb
          have Hr2 := Lib.hid hr
          have Ho2 := Lib.hid ho
          have hws := lt_of_block hb
          have hws1 := lt_of_block hr
          clear hc x0 x1 x2 x3 hb hr ho Hb Hr Ho
          go_wp2
          have q1 : IntKind.i64.wrap (4 + (i : Int)) = 4 + i := IntWalk.i64_in _ (by omega)
          have q2 : IntKind.i64.wrap (8 + (i : Int)) = 8 + i := IntWalk.i64_in _ (by omega)
          have q3 : IntKind.i64.wrap (12 + (i : Int)) = 12 + i := IntWalk.i64_in _ (by omega)
          have b0 : (i : Int) < 16 := by clear q1 q2 q3; omega
          have b1 : 4 + (i : Int) < 16 := by clear q1 q2 q3; omega
          have b2 : 8 + (i : Int) < 16 := by clear q1 q2 q3; omega
          have b3 : 12 + (i : Int) < 16 := by clear q1 q2 q3; omega
          have n1 : 0 ≤ 4 + (i : Int) := by clear q1 q2 q3; omega
          have n2 : 0 ≤ 8 + (i : Int) := by clear q1 q2 q3; omega
          have n3 : 0 ≤ 12 + (i : Int) := by clear q1 q2 q3; omega
          have t1 : (4 + (i : Int)).toNat = 4 + i := by clear q1 q2 q3; omega
          have t2 : (8 + (i : Int)).toNat = 8 + i := by clear q1 q2 q3; omega
          have t3 : (12 + (i : Int)).toNat = 12 + i := by clear q1 q2 q3; omega
          go_region_held3 (fun w' => w'.cell? ⟨w.heap.size, i, none⟩ = some (.int .i64 d) ∧ w'.cell? ⟨w.heap.size, 4 + i, none⟩ = some (.int .i64 0) ∧ w'.cell? ⟨w.heap.size, 8 + i, none⟩ = some (.int .i64 0) ∧ w'.cell? ⟨w.heap.size, 12 + i, none⟩ = some (.int .i64 0)) ((refine ⟨?_, ?_, ?_, ?_⟩ <;> (repeat (first | with_reducible assumption | (with_reducible refine cell_set ?_ (by simp; omega)) | with_reducible refine cell_alloc ?_ | with_reducible refine cell_drew ?_))))
            ((first
              | (refine (HF.out d _ (.inl rfl)).mono ?_
                 rintro r w2 ⟨rfl, g1⟩
                 first
                   | (have A2 : w2.heap[wr.heap.size]? = some (.cells #[.int .i64 0, .int .i64 0, .int .i64 0, .int .i64 0] 218 (0, 0)) := by with_reducible exact g1.heap (heap_alloc_drew wr _) (by simp)
                      have y0 : w2.cell? ⟨wr.heap.size, 0, none⟩ = some (.int .i64 0) := by rw [cells_of A2]; rfl
                      have y1 : w2.cell? ⟨wr.heap.size, 1, none⟩ = some (.int .i64 0) := by rw [cells_of A2]; rfl
                      have y2 : w2.cell? ⟨wr.heap.size, 2, none⟩ = some (.int .i64 0) := by rw [cells_of A2]; rfl
                      have y3 : w2.cell? ⟨wr.heap.size, 3, none⟩ = some (.int .i64 0) := by rw [cells_of A2]; rfl
                      have z0 := free_of A2 0
                      have z1 := free_of A2 1
                      have z2 := free_of A2 2
                      have z3 := free_of A2 3
                      have HA2 := Lib.hid A2
                      have O2 : Hid (Only [] wr w2) := Lib.hid (by with_reducible exact (only_alloc_drew wr _).trans g1)
                      clear g1 A2)
                   | (have O2 : Hid (Only [] wr w2) := Lib.hid (by with_reducible exact (Only.refl [] wr).drew.trans g1)
                      clear g1)
                 have hs2 := O2.out.size
                 have k0 := O2.out.cell e0 (by simp)
                 have k1 := O2.out.cell e1 (by simp)
                 have k2 := O2.out.cell e2 (by simp)
                 have k3 := O2.out.cell e3 (by simp))))
          all_goals
            first
              | (have C7 : Hid (((((w2.setCell ⟨wr.heap.size, 0, none⟩ (.int .i64 d)).setCell ⟨wr.heap.size, 1, none⟩ (.int .i64 d)).setCell ⟨wr.heap.size, 2, none⟩ (.int .i64 d)).setCell ⟨wr.heap.size, 3, none⟩ (.int .i64 d)).heap[wr.heap.size]? = some (.cells (ints [d, d, d, d]) 218 (0, 0))) := Lib.hid (heap_set_same _ (heap_set_same _ (heap_set_same _ (heap_set_same _ HA2.out))))
                 have P7 : Hid (Only [] wr ((((w2.setCell ⟨wr.heap.size, 0, none⟩ (.int .i64 d)).setCell ⟨wr.heap.size, 1, none⟩ (.int .i64 d)).setCell ⟨wr.heap.size, 2, none⟩ (.int .i64 d)).setCell ⟨wr.heap.size, 3, none⟩ (.int .i64 d))) := Lib.hid ((((O2.out.setCell (.inr (Nat.le_refl _)) _).setCell (.inr (Nat.le_refl _)) _).setCell (.inr (Nat.le_refl _)) _).setCell (.inr (Nat.le_refl _)) _)
                 have hn7 : w.heap.size + 1 < wr.heap.size := by omega
                 generalize (((w2.setCell ⟨wr.heap.size, 0, none⟩ (.int .i64 d)).setCell ⟨wr.heap.size, 1, none⟩ (.int .i64 d)).setCell ⟨wr.heap.size, 2, none⟩ (.int .i64 d)).setCell ⟨wr.heap.size, 3, none⟩ (.int .i64 d) = w7 at *
                 generalize wr.heap.size = nb at *)
              | (have C7 : Hid ((w2.alloc (.cells #[.int .i64 d, .int .i64 d, .int .i64 d, .int .i64 d] 218)).heap[w2.heap.size]? = some (.cells (ints [d, d, d, d]) 218 (0, 0))) := Lib.hid (heap_alloc_at w2 _)
                 have P7 : Hid (Only [] wr (w2.alloc (.cells #[.int .i64 d, .int .i64 d, .int .i64 d, .int .i64 d] 218))) := Lib.hid (O2.out.alloc _)
                 have hn7 : w.heap.size + 1 < w2.heap.size := by omega
                 generalize w2.alloc (.cells #[.int .i64 d, .int .i64 d, .int .i64 d, .int .i64 d] 218) = w7 at *
                 generalize w2.heap.size = nb at *)
            have B7 := Lib.hid (P7.out.heap Hb2.out (by simp))
            have R7 := Lib.hid (P7.out.heap Hr2.out (by simp))
            have O7 := Lib.hid (Ho2.out.trans P7.out)
            have hi4 : i < 4 := hlt2
            clear e0 e1 e2 e3 k0 k1 k2 k3 hs2 O2 P7 Hb2 Hr2 Ho2 hws hws1 q1 q2 q3 b0 b1 b2 b3 n1 n2 n3 t1 t2 t3
            try clear y0 y1 y2 y3
            try clear z0 z1 z2 z3
            try clear HA2
            go_wp2
            go_loopw [49] (fun q ws => ∃ k : Nat, k ≤ 4 ∧ q = .int .i64 k ∧ ws.heap[w.heap.size]? = some (.cells (ints (inTo d i k)) 36 (0, 0)) ∧ ws.heap[w.heap.size + 1]? = some (.cells z2 36 (0, 0)) ∧ ws.heap[nb]? = some (.cells (ints [d, d, d, d]) 218 (0, 0)) ∧ Only [] w ws) (fun q _ => 4 - (intOf q).toNat)
            case atStart => exact ⟨0, by omega, rfl, B7.out, R7.out, C7.out, O7.out⟩
            case round =>
              obtain ⟨m, hm, rfl, hb, hr, hn, ho⟩ := hrel
              by_cases hlt3 : m < 4
              · have f1 : wr.cell? ⟨nb, m, none⟩ = some (.int .i64 d) := by
                  rw [cells_of hn, ints_at _ _ (by simpa using hlt3)]
                  rcases (show m = 0 ∨ m = 1 ∨ m = 2 ∨ m = 3 by omega) with rfl | rfl | rfl | rfl <;> rfl
                have f2 : ∃ y, wr.cell? ⟨w.heap.size, 4 * m + i, none⟩ = some (.int .i64 y) := ⟨_, by rw [cells_of hb, ints_at _ _ (by rw [inTo_length]; omega)]⟩
                obtain ⟨y, f2⟩ := f2
                have f3 := free_of hb (4 * m + i)
                have p1 : 4 * (m : Int) + (i : Int) < 16 := by omega
                have p2 : 0 ≤ 4 * (m : Int) + (i : Int) := by omega
                have p3 : (4 * (m : Int) + (i : Int)).toNat = 4 * m + i := by omega
                have hs := heap_set_same (i := 4 * m + i) (.int .i64 d) hb
                rw [ints_setIf, inTo_set d i m hi4 hlt3] at hs
                have S1 := Lib.hid hs
                have S2 := Lib.hid (heap_set_other (b := w.heap.size) (i := 4 * m + i) (.int .i64 d) hr (by omega))
                have S3 := Lib.hid (heap_set_other (b := w.heap.size) (i := 4 * m + i) (.int .i64 d) hn (by omega))
                have S4 := Lib.hid (ho.setCell (p := ⟨w.heap.size, 4 * m + i, none⟩) (.inr (Nat.le_refl _)) (.int .i64 d))
                clear hs hb hr hn ho
                go_wp2
                go_roundw
                case rel => exact ⟨m + 1, by omega, by go_num, S1.out, S2.out, S3.out, S4.out⟩
                case measure => simp [intOf] <;> omega
              · obtain rfl : m = 4 := by omega
                rw [inTo_next d i hi4] at hb
                have S1 := Lib.hid hb
                have S2 := Lib.hid hr
                have S4 := Lib.hid ho
                clear hb hr hn ho
                go_wp2
                go_roundw
                case rel => first
                  | exact ⟨i + 1, by omega, by go_num, S1.out, ⟨z2, hz2, S2.out⟩, S4.out⟩
                  | ((repeat apply Exists.intro); exact ⟨⟨i + 1, by omega, by go_num, S1.out, ⟨z2, hz2, S2.out⟩, S4.out⟩, rfl⟩)
                case measure => simp [intOf] <;> omega
        · obtain rfl : i = 4 := by omega
          rw [inTo_full] at hb
          have hsz : (ints (List.replicate 16 d)).size = 16 := by rw [ints_size, List.length_replicate]
          obtain ⟨R16, hR16⟩ : ∃ r, r = ints (List.replicate 16 d) := ⟨_, rfl⟩
          have h1 : R16.all (·.oneCell') = true := by rw [hR16]; exact ints_one _
          rw [← hR16] at hb hsz
          have S1 := Lib.hid hb
          have S2 := Lib.hid hr
          have S4 := Lib.hid ho
          have Hsz := Lib.hid hsz
          have Hz2 := Lib.hid hz2
          have H1 := Lib.hid h1
          have HR16 := Lib.hid hR16
          clear hb hr ho hsz hz2 h1 hR16 Hb Hr Ho
          go_wp2_with (first
            | (with_reducible refine wpList_load_row rfl _ _ rfl _ rfl _ _ _ _ S1.out Tryz.underlying36 rfl (by rw [Hsz.out]; kernel_rfl) ?_)
            | (refine wpList_store_agg rfl _ _ _ rfl _ _ rfl rfl S2.out (by rw [Hsz.out]; kernel_rfl) (by rw [Hz2.out, Hsz.out]) H1.out ?_))
          intro w8 hw8 ho8
          have W8 := Lib.hid hw8
          have O8 := Lib.hid (S4.out.trans' ho8 (by simp))
          clear hw8 ho8
          go_wp2
          refine ret_cell rfl _ rfl W8.out Tryz.underlying36 rfl (by rw [Hsz.out]; kernel_rfl) rfl ⟨by rw [HR16.out], O8.out⟩
end Go.Proofs.YtcmehedjdfopdaaGreat
