/-
  BinsPuts: elements by the engine are the document's.
-/
import Derived.Test.YtibojidpifgblaaDoorPutB
import Derived.Test.YtibojidpifgblaaDoorHold2
import Derived.Test.YtibojidpifgblaaDoorLend
import Derived.Test.YtibojidpifgblaaDoorLawByp
import Derived.Test.YtibojidpifgblaaDoorDoor2
import Derived.Test.YtibojidpifgblaaDoorLaw6Awake
namespace Go.Proofs.YtibojidpifgblaaDoor
open Go.RowKit

/-- Elements, one behind the other. -/
def Enc.elems (e : Enc) (xs : List (List Int)) : Nat → Enc
  | 0 => e
  | k + 1 => ((e.elems xs k).elem ((xs.getD k []).getD 0 0) ((xs.getD k []).getD 1 0) ((xs.getD k []).getD 2 0) ((xs.getD k []).getD 3 0)).2
theorem Enc.good_elems (e : Enc) (xs : List (List Int)) (h : e.Good) (k : Nat) : (e.elems xs k).Good ∧ (e.elems xs k).cost ≤ e.cost + 800 * k := by
  induction k with
  | zero => exact ⟨h, by show e.cost ≤ _; omega⟩
  | succ k ih =>
    have := (e.elems xs k).good_elem ((xs.getD k []).getD 0 0) ((xs.getD k []).getD 1 0) ((xs.getD k []).getD 2 0) ((xs.getD k []).getD 3 0) ih.1
    exact ⟨this.1, Nat.le_trans this.2 (by have h := ih.2; clear this; omega)⟩
theorem Enc.letters_len (el inc : Int) (cs : List Int) : ∀ (e : Enc) (n : Nat), (Enc.letters el inc e n cs).2.st.length = e.st.length := by
  induction cs with
  | nil => intro e n; rfl
  | cons c cs ih =>
    intro e n
    have hl : (e.letter el inc n c).2.1.st.length = e.st.length := by
      unfold Enc.letter
      split
      · exact Enc.bypass_len _ _
      · exact Enc.bin_len _ _ _
    unfold Enc.letters
    split
    · rw [ih, hl]
    · exact hl
theorem Enc.elems_len (e : Enc) (xs : List (List Int)) (k : Nat) : (e.elems xs k).st.length = e.st.length := by
  induction k with
  | zero => rfl
  | succ k ih =>
    rw [← ih]
    show ((e.elems xs k).elem _ _ _ _).2.st.length = _
    unfold Enc.elem
    split
    · exact Enc.letters_len _ _ _ _ _
    · rfl
theorem put_nil (el inc v most : Int) (w : World) : Calls Tryd.prog 38 #[.pointer none, .int .i64 el, .int .i64 inc, .int .i64 v, .int .i64 most] w fun r w' => r = .returned (.int .i64 1) ∧ w = w' := by
  go_enter Tryd.func38, Tryd.ntmps38
  go_wp2
  go_ret
  exact ⟨rfl, rfl⟩
theorem init_slice {w : World} {g : Nat} {qp : Int} (h : w.heap[g]? = some (.cells (ints (initL qp)) 3 (0, 0))) : IntSlice w (.slice (some ⟨g, 0, none⟩) 256 256) (initL qp) := by
  have := IntSlice.of_block (cap := 256) h
  rw [initL_length] at this
  exact this

set_option maxRecDepth 100000 in
set_option maxHeartbeats 16000000 in
theorem law_puts (qp : Int) (u : Value) (ys : List (List Int)) (w : World) (ha : Asc w) (hq0 : -9223372036854775808 ≤ qp) (hq1 : qp ≤ 9223372036854775807) (hu : RowSlice w 4 u ys) (hl2 : ys.length ≤ 9223372036854775807) :
    Calls Tryd.prog 8 #[.int .i64 qp, u] w fun e w' => e = .returned (.bool true) ∧ Only [] w w' := by
  have Ha := Lib.hid ha
  obtain ⟨bo, cap2, rfl, hd⟩ := hu
  have Hd := Lib.hid hd
  clear hd ha
  go_enter Tryd.func8, Tryd.ntmps8
  go_wp2_with fail
  refine (bins_init qp w hq0 hq1).mono ?_
  rintro r w1 ⟨g1, rfl, hb1, hg1, ho1⟩
  have Hb1 := Lib.hid (init_slice hb1)
  have Ho1 := Lib.hid ho1
  clear hb1 ho1
  go_wp2_with fail
  refine (enc_new (Ha.out.only Ho1.out (by simp)) (Only.refl _ w1) _ (initL qp) Hb1.out (by rw [initL_length]; omega)).mono ?_
  rintro r w2 ⟨b1, t1, s1, rfl, h2, h2o, -, -, -⟩
  have H2 := Lib.hid h2
  have H2o := Lib.hid h2o
  clear h2 h2o
  go_wp2_with fail
  refine (ref_init qp w2 hq0 hq1).mono ?_
  rintro r w3 ⟨g3, rfl, hb3, hg3, ho3⟩
  have Hb3 := Lib.hid (init_slice hb3)
  have Ho3 := Lib.hid ho3
  clear hb3 ho3
  go_wp2_with fail
  refine (ref_new _ (initL qp) w3 Hb3.out (by rw [initL_length]; omega)).mono ?_
  rintro r w4 ⟨b2, t2, s2, rfl, h3, h3o, k1, k2, k3⟩
  have hz3 := Ho3.out.size
  have HP := Lib.hid (pair_new H2.out h3 (Ho3.out.trans h3o) (by omega) (by omega) (by omega))
  clear h3 h3o k1 k2 k3 H2 H2o Hb3 Ho3 hz3 hg3 hg1
  go_wp2
  obtain ⟨N, hN⟩ : ∃ n, n = min 100 ys.length := ⟨_, rfl⟩
  have hNa : N ≤ 100 := by omega
  have hNb : N ≤ ys.length := by omega
  have HN := Lib.hid hN
  clear hN
  go_loopw [7] (fun i wr => ∃ (j : Nat) (o1 o2 : Value), j ≤ N ∧ i = .int .i64 j ∧ Pair w1 wr b1 t1 s1 b2 t2 s2 o1 o2 ((Enc.new (initL qp)).elems ys j) ((Enc.new (initL qp)).elems ys j)) (fun i _ => N - (intOf i).toNat)
  case atStart => exact ⟨0, _, _, Nat.zero_le _, rfl, HP.out⟩
  case round =>
    obtain ⟨j, o1, o2, hj, rfl, kp⟩ := hrel
    obtain ⟨E1, hE1⟩ : ∃ E, E = (Enc.new (initL qp)).elems ys j := ⟨_, rfl⟩
    rw [← hE1] at kp
    have Hc1 : Hid (E1.cost ≤ 80000) := Lib.hid (by rw [hE1]; have := ((Enc.new (initL qp)).good_elems ys (Enc.good_new _) j).2; have h0 : (Enc.new (initL qp)).cost = 0 := rfl; omega)
    have HE1 := Lib.hid hE1
    have KP0 := Lib.hid kp
    clear hE1 kp
    by_cases hlq : j < N
    · rcases Hd.out with hx | ⟨gy, offy, rfl, hcell⟩
      · rw [hx] at hNb; simp at hNb; omega
      have hq1' : j < 100 := by omega
      have hq2 : j < ys.length := by omega
      have c0 := KP0.out.a.on.cell (Ho1.out.cell (hcell j 0 hq2 (by omega)) (by simp)) (by simp)
      have c1 := KP0.out.a.on.cell (Ho1.out.cell (hcell j 1 hq2 (by omega)) (by simp)) (by simp)
      have c2 := KP0.out.a.on.cell (Ho1.out.cell (hcell j 2 hq2 (by omega)) (by simp)) (by simp)
      have c3 := KP0.out.a.on.cell (Ho1.out.cell (hcell j 3 hq2 (by omega)) (by simp)) (by simp)
      obtain ⟨x0, h0⟩ : ∃ k, k = (ys.getD j []).getD 0 0 := ⟨_, rfl⟩
      obtain ⟨x1, h1⟩ : ∃ k, k = (ys.getD j []).getD 1 0 := ⟨_, rfl⟩
      obtain ⟨x2, h2⟩ : ∃ k, k = (ys.getD j []).getD 2 0 := ⟨_, rfl⟩
      obtain ⟨x3, h3⟩ : ∃ k, k = (ys.getD j []).getD 3 0 := ⟨_, rfl⟩
      obtain ⟨E2, hE2⟩ : ∃ E, E = (E1.elem x0 x1 x2 x3).2 := ⟨_, rfl⟩
      have HE2 : Hid (E2 = (Enc.new (initL qp)).elems ys (j + 1)) := Lib.hid (by rw [hE2, h0, h1, h2, h3, HE1.out]; rfl)
      rw [← h0, Nat.add_zero] at c0
      rw [← h1, ← Nat.add_assoc] at c1
      rw [← h2, ← Nat.add_assoc] at c2
      rw [← h3, ← Nat.add_assoc] at c3
      have HE3 := Lib.hid hE2
      clear hcell h0 h1 h2 h3 hE2
      have ha1 : Only [] wr (wr.alloc (.cells #[.int .i64 x0, .int .i64 x1, .int .i64 x2, .int .i64 x3] 59)) := (Only.refl _ _).alloc _
      have KP := Lib.hid (KP0.out.only ha1)
      have hlow := KP0.out.a.low
      have hov1 : ∀ g, o1.ownBlock = some g → g ≠ wr.heap.size := fun g hg => by have := hlow.2.2.2 g hg; omega
      have hnb : wr.heap.size ∉ b1 :: s1 :: o1.ownBlock.toList := by
        simp only [List.mem_cons, Option.mem_toList, not_or]
        exact ⟨by omega, by omega, fun h => hov1 _ h rfl⟩
      have hcells : ∀ q, (wr.alloc (.cells #[.int .i64 x0, .int .i64 x1, .int .i64 x2, .int .i64 x3] 59)).cell? ⟨wr.heap.size, q, none⟩ = (#[.int .i64 x0, .int .i64 x1, .int .i64 x2, .int .i64 x3] : Array Value)[q]? := cells_of (heap_alloc_at _ _)
      have Hcells := Lib.hid hcells
      have HKP := KP0
      clear ha1 hlow hov1 KP0 hcells
      have a0 := Hcells.out 0
      have a1 := Hcells.out 1
      have a2 := Hcells.out 2
      have a3 := Hcells.out 3
      go_wp2_with fail
      refine (bins_put KP.out.a (by have := Hc1.out; omega) x0 x1 x2 x3).mono ?_
      rintro r w5 ⟨rfl, ov1, g1, g2⟩
      obtain ⟨cd, hcd⟩ : ∃ c, c = (E1.elem x0 x1 x2 x3).1 := ⟨_, rfl⟩
      have Hcd := Lib.hid hcd
      rw [← hcd]
      rw [← HE3.out] at g1
      have K5 := Lib.hid (KP.out.enc g1 g2)
      have d0 := g2.only.cell a0 hnb
      have d1 := g2.only.cell a1 hnb
      have d2 := g2.only.cell a2 hnb
      have d3 := g2.only.cell a3 hnb
      have K5d := Lib.hid K5.out.drew
      have hnb2 : wr.heap.size ∉ b2 :: s2 :: o2.ownBlock.toList := by
        have q1 := lt_of_block (HKP.out.r.is.cells)
        have q2 := lt_of_block (HKP.out.r.is.sts)
        simp only [List.mem_cons, Option.mem_toList, not_or]
        exact ⟨by omega, by omega, fun h => by obtain ⟨c, hc⟩ := ownsRow_block HKP.out.r.is.out h; have := lt_of_block hc; omega⟩
      clear g1 g2 hcd a0 a1 a2 a3
      go_wp2
      go_region_held3 (fun w' => w'.cell? ⟨wr.heap.size, 0, none⟩ = some (.int .i64 x0) ∧ w'.cell? ⟨wr.heap.size, 1, none⟩ = some (.int .i64 x1) ∧ w'.cell? ⟨wr.heap.size, 2, none⟩ = some (.int .i64 x2) ∧ w'.cell? ⟨wr.heap.size, 3, none⟩ = some (.int .i64 x3)) (first | exact ⟨d0, d1, d2, d3⟩ | exact ⟨e0, e1, e2, e3⟩ | go_keep | assumption)
        (first
          | (go_at_call 21; refine (num_any _ _).mono ?_; rintro e w' ⟨rfl, rfl⟩)
          | (go_at_call 39; refine (ref_elem K5d.out.r (by have := Hc1.out; omega) x0 x1 x2 x3).mono ?_; rintro r w6 ⟨rfl, ov2, g1, g2⟩; rw [← Hcd.out]; rw [← HE3.out] at g1; have K6 := Lib.hid (K5d.out.ref g1 g2); have e0 := g2.only.cell (w := w5.drew) d0 hnb2; have e1 := g2.only.cell (w := w5.drew) d1 hnb2; have e2 := g2.only.cell (w := w5.drew) d2 hnb2; have e3 := g2.only.cell (w := w5.drew) d3 hnb2; clear g1 g2))
      go_wp2
      go_roundw
      case rel => exact ⟨j + 1, _, _, by omega, by go_num, by rw [HE2.out] at K6; exact K6.out⟩
      case measure => simp [intOf] <;> omega
    · obtain rfl : j = N := by omega
      have hend3 : (ys.length ≤ j) ∨ (j = 100 ∧ j < ys.length) := by have := HN.out; omega
      have hlen : E1.st.length = 256 := by rw [HE1.out, Enc.elems_len]; simp [Enc.new, beginOf, initL]
      have Hlen := Lib.hid hlen
      clear hlen
      rcases hend3 with hend3 | ⟨hend3, hend4⟩
      all_goals
        go_wp2_with fail
        refine (put_nil 0 0 0 0 wr).mono ?_
        rintro r w5 ⟨rfl, rfl⟩
        have P8d := Lib.hid KP0.out.drew
        have e0 : wr.cell? ⟨b2, 0, none⟩ = some (.slice (some ⟨s2, 0, none⟩) 256 256) := by rw [cells_of KP0.out.r.is.cells, Hlen.out]; rfl
        obtain ⟨S, hS⟩ : ∃ S, S = strOfNums (packed E1.bits) := ⟨_, rfl⟩
        have hS2 : (S.toList == S.toList) = true := text_eq rfl
        have HS := Lib.hid hS
        have HL3 : Hid (E1.st.length ≤ 9000000000000000000) := Lib.hid (by have := Hlen.out; omega)
        clear hS
        go_wp2
        go_region_held3 (fun w' => w'.cell? ⟨b2, 0, none⟩ = some (.slice (some ⟨s2, 0, none⟩) 256 256)) (first | exact e0 | go_keep | assumption)
          (first
            | (go_at_call 20; refine (P8d.out.a.bytes).mono ?_; rintro r4 w11 ⟨rfl, rfl⟩; rw [← HS.out])
            | (go_at_call 28; refine (P8d.out.r.bytes (by have := Hc1.out; omega)).mono ?_; rintro r5 w12 ⟨rfl, g1, ho12⟩; rw [← HS.out]; have P12 := Lib.hid (P8d.out.only ho12); have e7 : w12.cell? ⟨b2, 0, none⟩ = some (.slice (some ⟨s2, 0, none⟩) 256 256) := ho12.cell (w := wr.drew) e0 (by simp); clear g1 ho12)
            | (go_at_call 29; refine (P12.out.a.states (by have := Hlen.out; omega)).mono ?_; rintro r2 w9 ⟨v2, rfl, g1, g2, g3⟩; have V9 := Lib.hid g1; have P9 := Lib.hid (P12.out.only g3); have e5 : w9.cell? ⟨b2, 0, none⟩ = some (.slice (some ⟨s2, 0, none⟩) 256 256) := g3.cell e7 (by simp); clear g1 g2 g3)
            | (go_at_call 30; refine (same_self v2 (.slice (some ⟨s2, 0, none⟩) 256 256) E1.st w9 (IntSlice.of_owned V9.out) (ref_states P9.out.r Hlen.out.symm) HL3.out).mono ?_; rintro r3 w10 ⟨rfl, ho10⟩; have P10 := Lib.hid (P9.out.only ho10); have e6 : w10.cell? ⟨b2, 0, none⟩ = some (.slice (some ⟨s2, 0, none⟩) 256 256) := ho10.cell e5 (by simp); clear ho10)
            | (go_at_call 21; refine (num_any _ _).mono ?_; rintro e w' ⟨rfl, rfl⟩)
            | (go_at_call 40; refine (awake6 w10).mono ?_; rintro r6 w13 ⟨rfl, ho13⟩; have e8 : w13.cell? ⟨b2, 0, none⟩ = some (.slice (some ⟨s2, 0, none⟩) 256 256) := ho13.cell e6 (by simp)))
        go_wp2
        go_ret
        exact ⟨rfl, Ho1.out.trans (P10.out.a.on.trans ho13)⟩
end Go.Proofs.YtibojidpifgblaaDoor
