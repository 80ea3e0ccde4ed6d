/-
  The walks over the law's SameBytes and SameFrame on frames that are alike. More moves over a region that draws: two or three that may come up; a make in such a region. The walk over the test for drawn blocks in package recon's brush.around, on a picture of one macroblock.
-/
import Derived.Test.YtcmehedjdfopdaaGreatJ30
import Derived.Laws.BytesArg
import Derived.Test.YtcmehedjdfopdaaGreatJ17
import Derived.Test.YtcmehedjdfopdaaGreatJ26
namespace Go.Proofs.YtcmehedjdfopdaaGreat
open Go.RowKit

/-- A slice of bytes that reads as a list. -/
def BytesAt (w : World) (v : Value) (xs : List Int) : Prop := ∃ b c, v = .slice (some ⟨b, 0, none⟩) xs.length c ∧ ∀ i, i < xs.length → w.cell? ⟨b, i, none⟩ = some (.int .u8 (xs.getD i 0))
theorem BytesAt.only {w w' : World} {v : Value} {xs : List Int} (h : BytesAt w v xs) (ho : Only [] w w') : BytesAt w' v xs := by
  obtain ⟨b, c, rfl, h⟩ := h
  exact ⟨b, c, rfl, fun i hi => ho.cell (h i hi) (by simp)⟩
theorem BytesAt.own {w : World} {B k g n cap : Nat} {e : TypeId} {xs : List Int} (h : w.ownsRow B e 1 (.slice (some ⟨g, 0, none⟩) n cap) k (xs.map (Value.int .u8))) (hk : k = xs.length) (hn : n = xs.length) : BytesAt w (.slice (some ⟨g, 0, none⟩) n cap) xs :=
  ⟨g, cap, by rw [hn], fun i hi => u8_at h hk i hi⟩

set_option maxHeartbeats 800000 in
theorem same_bytes {w : World} {v1 v2 : Value} {xs : List Int} (h1 : BytesAt w v1 xs) (h2 : BytesAt w v2 xs) : Calls Tryz.prog 30 #[v1, v2] w fun e w' => e = .returned (.bool true) ∧ w = w' := by
  obtain ⟨b1, c1, rfl, k1⟩ := h1
  obtain ⟨b2, c2, rfl, k2⟩ := h2
  have e1 := run_convert_bytes_arg (P := Tryz.prog) w 46 5 Tryz.underlying46 Tryz.underlying5 b1 0 xs.length c1 xs rfl (fun i hi => by rw [Nat.zero_add]; exact k1 i hi) 9 Tryz.underlying9
  have e2 := run_convert_bytes_arg (P := Tryz.prog) w 46 5 Tryz.underlying46 Tryz.underlying5 b2 0 xs.length c2 xs rfl (fun i hi => by rw [Nat.zero_add]; exact k2 i hi) 9 Tryz.underlying9
  obtain ⟨S, hS⟩ : ∃ S, S = strOfNums xs := ⟨_, rfl⟩
  rw [← hS] at e1 e2
  clear hS k1 k2
  go_enter Tryz.func30, Tryz.ntmps30
  go_wp2
  go_ret
  exact ⟨rfl, rfl⟩

set_option maxRecDepth 100000 in
set_option maxHeartbeats 1600000 in
theorem same_frame {w : World} {W H : Int} {a1 a2 a3 b1 b2 b3 : Value} {Y U V : List Int} (hy1 : BytesAt w a1 Y) (hy2 : BytesAt w b1 Y) (hu1 : BytesAt w a2 U) (hu2 : BytesAt w b2 U) (hv1 : BytesAt w a3 V) (hv2 : BytesAt w b3 V) :
    Calls Tryz.prog 16 #[.agg #[.int .i64 W, .int .i64 H, a1, a2, a3], .agg #[.int .i64 W, .int .i64 H, b1, b2, b3]] w fun e w' => e = .returned (.bool true) ∧ Only [] w w' := by
  have H1 := Lib.hid hy1
  have H2 := Lib.hid hy2
  have H3 := Lib.hid hu1
  have H4 := Lib.hid hu2
  have H5 := Lib.hid hv1
  have H6 := Lib.hid hv2
  obtain ⟨x1, y1, rfl, -⟩ := hy1
  obtain ⟨x2, y2, rfl, -⟩ := hy2
  obtain ⟨x3, y3, rfl, -⟩ := hu1
  obtain ⟨x4, y4, rfl, -⟩ := hu2
  obtain ⟨x5, y5, rfl, -⟩ := hv1
  obtain ⟨x6, y6, rfl, -⟩ := hv2
  have OA : Hid (Only [] w ((w.alloc (.cells #[.int .i64 W, .int .i64 H, .slice (some ⟨x1, 0, none⟩) Y.length y1, .slice (some ⟨x3, 0, none⟩) U.length y3, .slice (some ⟨x5, 0, none⟩) V.length y5] 54)).alloc (.cells #[.int .i64 W, .int .i64 H, .slice (some ⟨x2, 0, none⟩) Y.length y2, .slice (some ⟨x4, 0, none⟩) U.length y4, .slice (some ⟨x6, 0, none⟩) V.length y6] 54))) := Lib.hid (((Only.refl [] w).alloc _).alloc _)
  go_enter Tryz.func16, Tryz.ntmps16
  go_wp2_with fail
  refine (same_bytes (H1.out.only OA.out) (H2.out.only OA.out)).mono ?_
  rintro e w' ⟨rfl, rfl⟩
  go_wp2_with fail
  refine (same_bytes (H3.out.only OA.out) (H4.out.only OA.out)).mono ?_
  rintro e w' ⟨rfl, rfl⟩
  go_wp2_with fail
  refine (same_bytes (H5.out.only OA.out) (H6.out.only OA.out)).mono ?_
  rintro e w' ⟨rfl, rfl⟩
  go_wp2
  go_ret
  exact ⟨rfl, OA.out⟩
end Go.Proofs.YtcmehedjdfopdaaGreat

namespace Go.Proofs.YtcmehedjdfopdaaGreat
open Go Go.RowKit

section
variable {P : Program} {ops : Array Oper} {Q : Exit → Act → World → Prop} {md : Region.Mode} {S : World → Prop} {m : Nat}

theorem AnyL.op (i : Nat) {oi : Oper} {rest : List Oper} {n : Nat} {listed : Array Bool} {a : Act} {w : World} (hi : ops.toList.drop i = oi :: rest)
    (h : ∀ K : Act → World → Prop, (∀ a' w', (i ≠ m → S w') → ((i ≠ m → S w') → AnyL P md ops Q S m n (listed.setIfInBounds i true) a' w') → K a' w') →
      if Region.wanted oi (yielded ops a.tmps) = true then Oper.wp P oi a w K Q else K (a.put oi.dst undef) w) :
    wpOp P ops Q i (fun a' w' => (i ≠ m → S w') ∧ AnyL P md ops Q S m n (listed.setIfInBounds i true) a' w') a w := by
  have h1 := h (fun a' w' => (i ≠ m → S w') ∧ AnyL P md ops Q S m n (listed.setIfInBounds i true) a' w') (fun a' w' hs hk => ⟨hs, hk hs⟩)
  unfold wpOp
  simp only [drop_get hi]
  split
  · rename_i hw; simp only [hw, if_true] at h1; exact .inl h1
  · rename_i hw; simp only [hw] at h1; exact h1

theorem AnyL.two (i j : Nat) {n : Nat} {listed : Array Bool} {a : Act} {w : World} (hr : Region.ready md ops listed = [i, j])
    (h1 : wpOp P ops Q i (fun a' w' => (i ≠ m → S w') ∧ AnyL P md ops Q S m n (listed.setIfInBounds i true) a' w') a w)
    (h2 : wpOp P ops Q j (fun a' w' => (j ≠ m → S w') ∧ AnyL P md ops Q S m n (listed.setIfInBounds j true) a' w') a w) : AnyL P md ops Q S m (n + 1) listed a w := by
  refine ⟨fun h0 => (by rw [h0] at hr; cases hr), hr ▸ fun k hk => ?_⟩
  rcases List.mem_cons.1 hk with rfl | hk
  · exact h1
  · obtain rfl : k = j := by simpa using hk
    exact h2
theorem AnyL.three (i j k : Nat) {n : Nat} {listed : Array Bool} {a : Act} {w : World} (hr : Region.ready md ops listed = [i, j, k])
    (h1 : wpOp P ops Q i (fun a' w' => (i ≠ m → S w') ∧ AnyL P md ops Q S m n (listed.setIfInBounds i true) a' w') a w)
    (h2 : wpOp P ops Q j (fun a' w' => (j ≠ m → S w') ∧ AnyL P md ops Q S m n (listed.setIfInBounds j true) a' w') a w)
    (h3 : wpOp P ops Q k (fun a' w' => (k ≠ m → S w') ∧ AnyL P md ops Q S m n (listed.setIfInBounds k true) a' w') a w) : AnyL P md ops Q S m (n + 1) listed a w := by
  refine ⟨fun h0 => (by rw [h0] at hr; cases hr), hr ▸ fun l hl => ?_⟩
  rcases List.mem_cons.1 hl with rfl | hl
  · exact h1
  · rcases List.mem_cons.1 hl with rfl | hl
    · exact h2
    · obtain rfl : l = k := by simpa using hl
      exact h3
theorem AnyL.four (i j k l : Nat) {n : Nat} {listed : Array Bool} {a : Act} {w : World} (hr : Region.ready md ops listed = [i, j, k, l])
    (h1 : wpOp P ops Q i (fun a' w' => (i ≠ m → S w') ∧ AnyL P md ops Q S m n (listed.setIfInBounds i true) a' w') a w)
    (h2 : wpOp P ops Q j (fun a' w' => (j ≠ m → S w') ∧ AnyL P md ops Q S m n (listed.setIfInBounds j true) a' w') a w)
    (h3 : wpOp P ops Q k (fun a' w' => (k ≠ m → S w') ∧ AnyL P md ops Q S m n (listed.setIfInBounds k true) a' w') a w)
    (h4 : wpOp P ops Q l (fun a' w' => (l ≠ m → S w') ∧ AnyL P md ops Q S m n (listed.setIfInBounds l true) a' w') a w) : AnyL P md ops Q S m (n + 1) listed a w := by
  refine ⟨fun h0 => (by rw [h0] at hr; cases hr), hr ▸ fun x hx => ?_⟩
  simp only [List.mem_cons, List.not_mem_nil, or_false] at hx
  rcases hx with rfl | rfl | rfl | rfl
  · exact h1
  · exact h2
  · exact h3
  · exact h4
end

theorem wp_make1 {P : Program} {w : World} {o : Oper} {a : Act} {K : Act → World → Prop} {Q : Exit → Act → World → Prop} (l c : Operand) {t e : TypeId}
    (hop : o.op = Op.makeSlice t l c) {z : Value} {bytes : Nat} (E : Elt P t e z 1 bytes) (hz1 : z.cells = #[z]) {kl kc : IntKind} {L C : Int} (n : Nat) (hl : a.eval l = .int kl L) (hc : a.eval c = .int kc C)
    (hL : L = (n : Int)) (hC : C = (n : Int)) (hb : bytes * n ≤ 281474976710656) (hn : n ≤ 281474976710656)
    (h : K (a.put o.dst (.slice (some ⟨w.heap.size, 0, none⟩) n n)) (w.alloc (.cells (zrow n z) e))) : o.wp P a w K Q := by
  obtain ⟨i, hi, hz, hs, hbt⟩ := info_parts E.hi
  subst hL hC
  have hbytes : (i.bytes : Int) * (n : Int) ≤ 281474976710656 := by
    have h2 : ((i.bytes * n : Nat) : Int) ≤ 281474976710656 := by rw [hbt]; omega
    simpa using h2
  have hr := run_make (P := P) w t e i z E.ht hi hz kl kc n n (by omega) (Int.le_refl _) hbytes (by omega)
  have hcells : (madeCells z.cells ((n : Int).toNat * i.size)) = zrow n z := by
    rw [hz1, hs]
    apply Array.ext'
    rw [toList_madeCells_one]
    simp [zrow]
  rw [hcells] at hr
  simp only [Int.toNat_natCast] at hr
  unfold Oper.wp
  simp [execOp, hop, hl, hc, hr, Result.andThen]
  exact h
end Go.Proofs.YtcmehedjdfopdaaGreat

namespace Go.Proofs.YtcmehedjdfopdaaGreat
open Go Go.RowKit

set_option maxRecDepth 100000 in
set_option maxHeartbeats 1600000 in
theorem there_out {w : World} {b cb mb db x y yb ub vb cy cu cv wide high : Nat} {Y U V : List Int} {al cur : Value} {aft : Int} (hb : BrushAt w b cb mb db x y) (hc : CanAt w cb yb ub vb cy cu cv wide high Y U V al cur aft) (hw : wide ≤ 1000) (x1 : Nat) (hx : wide ≤ x1) (hx2 : x1 ≤ 2000) :
    Calls Tryz.prog 103 #[.pointer (some ⟨b, 0, none⟩), .int .i64 x1, .int .i64 (-1)] w fun e w' => e = .returned (.bool false) ∧ w = w' := by
  have s0 : w.cell? ⟨b, 0, none⟩ = some (.pointer (some ⟨cb, 0, none⟩)) := by rw [cells_of hb]; rfl
  have s1 : w.cell? ⟨cb, 0, none⟩ = some (.int .i64 wide) := by rw [cells_of hc.st]; rfl
  clear hb hc
  go_enter Tryz.func103, Tryz.ntmps103
  go_wp2
  go_ret
  exact ⟨rfl, rfl⟩

/-- Is the block at a column and a row drawn ahead of a block? -/
def hasB (k : Nat) (cx cy : Int) : Bool := decide (0 ≤ cx ∧ cx < 4 ∧ 0 ≤ cy ∧ (cy / 2 * 2 + cx / 2) * 4 + cy % 2 * 2 + cx % 2 < (k : Int))

set_option maxRecDepth 100000 in
set_option maxHeartbeats 3200000 in
theorem has_in {w : World} {b cb mb db k2 k3 k : Nat} (hb : BrushAt w b cb mb db 0 0) (h2 : w.cell? ⟨k2, 0, none⟩ = some (.int .i64 k)) (cx cy : Int) (hx : 0 ≤ cx ∧ cx < 4) (hy : 0 ≤ cy ∧ cy < 4)  :
    Calls Tryz.prog 102 #[.int .i64 cx, .int .i64 cy, .pointer (some ⟨k2, 0, none⟩), .pointer (some ⟨k3, 0, none⟩)] w fun e w' => e = .returned (.bool (hasB k cx cy)) ∧ Only [] w w' := by
  have s3 : w.cell? ⟨b, 3, none⟩ = some (.int .i64 0) := by rw [cells_of hb]; rfl
  have s4 : w.cell? ⟨b, 4, none⟩ = some (.int .i64 0) := by rw [cells_of hb]; rfl
  clear hb
  obtain ⟨Q, hQ⟩ : ∃ Q, hasB k cx cy = Q := ⟨_, rfl⟩
  have hQ2 : Q = decide ((cy / 2 * 2 + cx / 2) * 4 + cy % 2 * 2 + cx % 2 < (k : Int)) := by
    rw [← hQ]
    unfold hasB
    simp only [hx.1, hx.2, hy.1, true_and]
  rw [hQ]
  have m1 : cy.tmod 2 = cy % 2 := Int.tmod_eq_emod_of_nonneg hy.1
  have m2 : cx.tmod 2 = cx % 2 := Int.tmod_eq_emod_of_nonneg hx.1
  obtain ⟨x0, x1⟩ := hx
  obtain ⟨y0, y1⟩ := hy
  have HQ2 := Lib.hid hQ2
  clear hQ hQ2
  go_enter Tryz.func102, Tryz.ntmps102
  go_wp2
  go_ret
  have hq := HQ2.out
  subst hq
  exact ⟨rfl, Only.refl _ _⟩

set_option maxRecDepth 100000 in
set_option maxHeartbeats 3200000 in
theorem has_above {w : World} {b cb mb db k2 k3 k : Nat} (hb : BrushAt w b cb mb db 0 0) (_ : w.cell? ⟨k2, 0, none⟩ = some (.int .i64 k)) (h3 : w.cell? ⟨k3, 0, none⟩ = some (.pointer (some ⟨b, 0, none⟩))) (cx cy : Int) (n : Nat) (hn : 3 ≤ n ∧ n ≤ 8) (hcx : cx = (n : Int) - 4) (hcy : cy = -1) (hT : ThereAt w b (((n / 4 : Nat) : Int) - 1) (-1) false) :
    Calls Tryz.prog 102 #[.int .i64 cx, .int .i64 cy, .pointer (some ⟨k2, 0, none⟩), .pointer (some ⟨k3, 0, none⟩)] w fun e w' => e = .returned (.bool (hasB k cx cy)) ∧ Only [] w w' := by
  have s3 : w.cell? ⟨b, 3, none⟩ = some (.int .i64 0) := by rw [cells_of hb]; rfl
  have s4 : w.cell? ⟨b, 4, none⟩ = some (.int .i64 0) := by rw [cells_of hb]; rfl
  clear hb
  have HT := Lib.hid hT
  clear hT
  have hb2 : hasB k cx cy = false := by rw [hcy]; unfold hasB; simp
  rw [hb2]
  subst hcy
  obtain ⟨a, ha⟩ : ∃ a : Nat, a = n / 4 := ⟨_, rfl⟩
  have ha2 : a ≤ 2 := by omega
  have q1 : IntKind.i64.wrap (cx + 4) = (n : Int) := by rw [hcx, show (n : Int) - 4 + 4 = n by omega]; exact i64n _ (by omega)
  have q2 : IntKind.i64.wrap ((n : Int) / 4) = (a : Int) := by rw [show (n : Int) / 4 = (a : Int) by omega]; exact i64n _ (by omega)
  have q2t : IntKind.i64.wrap ((n : Int).tdiv 4) = (a : Int) := by rw [Int.tdiv_eq_ediv_of_nonneg (by omega)]; exact q2
  have q3 : IntKind.i64.wrap (0 + (a : Int)) = (a : Int) := by rw [Int.zero_add]; exact i64n _ (by omega)
  have q4 : IntKind.i64.wrap ((a : Int) - 1) = (a : Int) - 1 := i64w _ (by omega) (by omega)
  have hcl : -1 ≤ cx ∧ cx ≤ 4 := by omega
  obtain ⟨cx0, cx1⟩ := hcl
  rw [← ha] at HT
  clear hcx ha hb2 hn
  go_enter Tryz.func102, Tryz.ntmps102
  go_wp2_with fail
  all_goals
    go_quiet ((go_at_call 103; exact Calls.quiet_of_same ((HT.out _ ((Only.refl [] w).drewN _)).mono fun _ _ ⟨h1, h2⟩ => ⟨h1, h2.symm⟩)))
    go_wp2
    go_ret
    exact ⟨rfl, (Only.refl [] w).drewN _⟩

set_option maxRecDepth 100000 in
set_option maxHeartbeats 3200000 in
theorem has_side {w : World} {b cb mb db k2 k3 k : Nat} (hb : BrushAt w b cb mb db 0 0) (_ : w.cell? ⟨k2, 0, none⟩ = some (.int .i64 k)) (h3 : w.cell? ⟨k3, 0, none⟩ = some (.pointer (some ⟨b, 0, none⟩))) (cx cy : Int) (hcx : cx = -1 ∨ cx = 4) (hcy : 0 ≤ cy ∧ cy < 4) (hT : ThereAt w b (-1) 0 false) :
    Calls Tryz.prog 102 #[.int .i64 cx, .int .i64 cy, .pointer (some ⟨k2, 0, none⟩), .pointer (some ⟨k3, 0, none⟩)] w fun e w' => e = .returned (.bool (hasB k cx cy)) ∧ Only [] w w' := by
  have s3 : w.cell? ⟨b, 3, none⟩ = some (.int .i64 0) := by rw [cells_of hb]; rfl
  have s4 : w.cell? ⟨b, 4, none⟩ = some (.int .i64 0) := by rw [cells_of hb]; rfl
  clear hb
  have HT := Lib.hid hT
  clear hT
  have hb2 : hasB k cx cy = false := by
    unfold hasB
    rw [decide_eq_false_iff_not]
    omega
  rw [hb2]
  clear hb2
  obtain ⟨y0, y1⟩ := hcy
  rcases hcx with rfl | rfl
  all_goals
    go_enter Tryz.func102, Tryz.ntmps102
    go_wp2_with fail
    go_quiet ((go_at_call 103; exact Calls.quiet_of_same ((HT.out _ ((Only.refl [] w).drewN _)).mono fun _ _ ⟨h1, h2⟩ => ⟨h1, h2.symm⟩)))
    go_wp2
    go_ret
    exact ⟨rfl, (Only.refl [] w).drewN _⟩
end Go.Proofs.YtcmehedjdfopdaaGreat
