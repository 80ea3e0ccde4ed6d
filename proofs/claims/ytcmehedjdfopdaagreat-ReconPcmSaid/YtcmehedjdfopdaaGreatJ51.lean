/-
  The walk over package recon's filterer.macroblock, over what edges do. The walks over package edge's tables and New.
-/
import Derived.Test.YtcmehedjdfopdaaGreatJ50
import Derived.Test.YtcmehedjdfopdaaGreatJ06
import Derived.Test.YtcmehedjdfopdaaGreatJ17
namespace Go.Proofs.YtcmehedjdfopdaaGreat
open Go Go.RowKit

/-- Edges of a macroblock in a plane stay. -/
def EdgesKeep (w : World) (fb x y k step : Nat) : Prop :=
  ∀ wx, Only [] w wx → ∀ (e : Nat) (u : Bool), e < 4 → e % step = 0 → (u = true → 1 ≤ e ∨ 1 ≤ x) → (u = false → 1 ≤ e ∨ 1 ≤ y) →
    Calls Tryz.prog 68 #[.pointer (some ⟨fb, 0, none⟩), .int .i64 x, .int .i64 y, .int .i64 e, .int .i64 k, .bool u] wx fun r w' => r = .returned (.tuple #[]) ∧ Only [] wx w'

set_option maxRecDepth 100000 in
set_option maxHeartbeats 3200000 in
theorem fl_mb_y {w : World} {fb x y : Nat} (hE : EdgesKeep w fb x y 0 1) :
    Calls Tryz.prog 44 #[.pointer (some ⟨fb, 0, none⟩), .int .i64 x, .int .i64 y, .int .i64 0] w fun r w' => r = .returned (.tuple #[]) ∧ Only [] w w' := by
  have HE := Lib.hid hE
  have A1 := Lib.hid (heap_alloc_at w (.cells #[.bool true, .bool false] 4))
  have O1 : Hid (Only [] w (w.alloc (.cells #[.bool true, .bool false] 4))) := Lib.hid ((Only.refl [] w).alloc _)
  clear hE
  go_enter Tryz.func44, Tryz.ntmps44
  go_wp2
  generalize w.alloc (.cells #[.bool true, .bool false] 4) = w1 at *
  go_loopw [16] (fun q wr => ∃ j : Nat, j ≤ 2 ∧ q = .int .i64 j ∧ wr.heap[w.heap.size]? = some (.cells #[.bool true, .bool false] 4 (0, 0)) ∧ Only [] w wr) (fun q _ => 2 - (intOf q).toNat)
  case atStart => exact ⟨0, by omega, rfl, A1.out, O1.out⟩
  case round =>
    obtain ⟨j, hj, rfl, hb, ho⟩ := hrel
    by_cases hlt : j < 2
    · obtain ⟨u, hu⟩ : ∃ u, u = decide (j = 0) := ⟨_, rfl⟩
      have c0 : wr.cell? ⟨w.heap.size, j, none⟩ = some (.bool u) := by
        rw [cells_of hb, hu]
        rcases (show j = 0 ∨ j = 1 by omega) with rfl | rfl <;> rfl
      have WB := Lib.hid hb
      have WO := Lib.hid ho
      have hj2 : (j : Int) < 2 := by omega
      rename World => wo
      clear hb ho hu
      go_wp2
      go_loopw [11] (fun q wr => ∃ e : Nat, e ≤ 4 ∧ e % 1 = 0 ∧ q = .int .i64 e ∧ wr.heap[w.heap.size]? = some (.cells #[.bool true, .bool false] 4 (0, 0)) ∧ Only [] w wr) (fun q _ => 4 - (intOf q).toNat)
      case atStart => exact ⟨0, by omega, rfl, rfl, WB.out, WO.out⟩
      case round =>
        obtain ⟨e, he, hes, rfl, hb, ho⟩ := hrel
        by_cases hel : e < 4
        · have hel4 : (e : Int) < 4 := by omega
          have WB2 := Lib.hid hb
          have WO2 := Lib.hid ho
          have Hes := Lib.hid hes
          clear hb ho hes
          by_cases he1 : 1 ≤ e
          · have hd : decide ((e : Int) > 0) = true := decide_eq_true (by omega)
            go_wp2_with fail
            refine (HE.out _ WO2.out e u (by omega) (by have := Hes.out; omega) (fun _ => .inl he1) (fun _ => .inl he1)).mono ?_
            rintro r wz ⟨rfl, oz⟩
            have OZ := Lib.hid (WO2.out.trans oz)
            have BZ := Lib.hid (oz.heap WB2.out (by simp))
            clear oz WO2 WB2
            go_wp2
            go_roundw
            case rel => exact ⟨e + 1, by omega, by have := Hes.out; omega, by go_num, BZ.out, OZ.out⟩
            case measure => simp [intOf] <;> omega
          · obtain rfl : e = 0 := by omega
            clear he1
            cases u
            · by_cases h1 : 1 ≤ y
              · have hd : decide ((y : Int) > 0) = true := decide_eq_true (by omega)
                go_wp2_with fail
                refine (HE.out _ WO2.out 0 false (by omega) (by omega) (fun h => nomatch h) (fun _ => .inr h1)).mono ?_
                rintro r wz ⟨rfl, oz⟩
                have OZ := Lib.hid (WO2.out.trans oz)
                have BZ := Lib.hid (oz.heap WB2.out (by simp))
                clear oz WO2 WB2
                go_wp2
                go_roundw
                case rel => exact ⟨0 + 1, by omega, by omega, by go_num, BZ.out, OZ.out⟩
                case measure => simp [intOf] <;> omega
              · obtain rfl : y = 0 := by omega
                clear h1
                go_wp2
                go_roundw
                case rel => exact ⟨1, by omega, by omega, by go_num, WB2.out, WO2.out⟩
                case measure => simp [intOf] <;> omega
            · by_cases h1 : 1 ≤ x
              · have hd : decide ((x : Int) > 0) = true := decide_eq_true (by omega)
                go_wp2_with fail
                refine (HE.out _ WO2.out 0 true (by omega) (by omega) (fun _ => .inr h1) (fun h => nomatch h)).mono ?_
                rintro r wz ⟨rfl, oz⟩
                have OZ := Lib.hid (WO2.out.trans oz)
                have BZ := Lib.hid (oz.heap WB2.out (by simp))
                clear oz WO2 WB2
                go_wp2
                go_roundw
                case rel => exact ⟨0 + 1, by omega, by omega, by go_num, BZ.out, OZ.out⟩
                case measure => simp [intOf] <;> omega
              · obtain rfl : x = 0 := by omega
                clear h1
                go_wp2
                go_roundw
                case rel => exact ⟨1, by omega, by omega, by go_num, WB2.out, WO2.out⟩
                case measure => simp [intOf] <;> omega
        · obtain rfl : e = 4 := by omega
          have WB2 := Lib.hid hb
          have WO2 := Lib.hid ho
          clear hb ho hes
          go_wp2
          go_roundw
          case rel => exact ⟨j + 1, by omega, by go_num, WB2.out, WO2.out⟩
          case measure => simp [intOf] <;> omega
    · obtain rfl : j = 2 := by omega
      have WO := Lib.hid ho
      clear ho hb
      go_wp2
      go_end0
      exact ⟨rfl, WO.out⟩

set_option maxRecDepth 100000 in
set_option maxHeartbeats 3200000 in
theorem fl_mb_c {w : World} {fb x y k : Nat} (hk : 1 ≤ k) (hE : EdgesKeep w fb x y k 2) :
    Calls Tryz.prog 44 #[.pointer (some ⟨fb, 0, none⟩), .int .i64 x, .int .i64 y, .int .i64 k] w fun r w' => r = .returned (.tuple #[]) ∧ Only [] w w' := by
  have HE := Lib.hid hE
  have A1 := Lib.hid (heap_alloc_at w (.cells #[.bool true, .bool false] 4))
  have O1 : Hid (Only [] w (w.alloc (.cells #[.bool true, .bool false] 4))) := Lib.hid ((Only.refl [] w).alloc _)
  clear hE
  have hk1 : decide (0 < k) = true := decide_eq_true (by omega)
  go_enter Tryz.func44, Tryz.ntmps44
  go_wp2
  generalize w.alloc (.cells #[.bool true, .bool false] 4) = w1 at *
  go_loopw [16] (fun q wr => ∃ j : Nat, j ≤ 2 ∧ q = .int .i64 j ∧ wr.heap[w.heap.size]? = some (.cells #[.bool true, .bool false] 4 (0, 0)) ∧ Only [] w wr) (fun q _ => 2 - (intOf q).toNat)
  case atStart => exact ⟨0, by omega, rfl, A1.out, O1.out⟩
  case round =>
    obtain ⟨j, hj, rfl, hb, ho⟩ := hrel
    by_cases hlt : j < 2
    · obtain ⟨u, hu⟩ : ∃ u, u = decide (j = 0) := ⟨_, rfl⟩
      have c0 : wr.cell? ⟨w.heap.size, j, none⟩ = some (.bool u) := by
        rw [cells_of hb, hu]
        rcases (show j = 0 ∨ j = 1 by omega) with rfl | rfl <;> rfl
      have WB := Lib.hid hb
      have WO := Lib.hid ho
      have hj2 : (j : Int) < 2 := by omega
      rename World => wo
      clear hb ho hu
      go_wp2
      go_loopw [11] (fun q wr => ∃ e : Nat, e ≤ 4 ∧ e % 2 = 0 ∧ q = .int .i64 e ∧ wr.heap[w.heap.size]? = some (.cells #[.bool true, .bool false] 4 (0, 0)) ∧ Only [] w wr) (fun q _ => 4 - (intOf q).toNat)
      case atStart => exact ⟨0, by omega, rfl, rfl, WB.out, WO.out⟩
      case round =>
        obtain ⟨e, he, hes, rfl, hb, ho⟩ := hrel
        by_cases hel : e < 4
        · have hel4 : (e : Int) < 4 := by omega
          have WB2 := Lib.hid hb
          have WO2 := Lib.hid ho
          have Hes := Lib.hid hes
          clear hb ho hes
          by_cases he1 : 1 ≤ e
          · have hd : decide ((e : Int) > 0) = true := decide_eq_true (by omega)
            go_wp2_with fail
            refine (HE.out _ WO2.out e u (by omega) (by have := Hes.out; omega) (fun _ => .inl he1) (fun _ => .inl he1)).mono ?_
            rintro r wz ⟨rfl, oz⟩
            have OZ := Lib.hid (WO2.out.trans oz)
            have BZ := Lib.hid (oz.heap WB2.out (by simp))
            clear oz WO2 WB2
            go_wp2
            go_roundw
            case rel => exact ⟨e + 2, by have := Hes.out; omega, by have := Hes.out; omega, by go_num, BZ.out, OZ.out⟩
            case measure => simp [intOf] <;> omega
          · obtain rfl : e = 0 := by omega
            clear he1
            cases u
            · by_cases h1 : 1 ≤ y
              · have hd : decide ((y : Int) > 0) = true := decide_eq_true (by omega)
                go_wp2_with fail
                refine (HE.out _ WO2.out 0 false (by omega) (by omega) (fun h => nomatch h) (fun _ => .inr h1)).mono ?_
                rintro r wz ⟨rfl, oz⟩
                have OZ := Lib.hid (WO2.out.trans oz)
                have BZ := Lib.hid (oz.heap WB2.out (by simp))
                clear oz WO2 WB2
                go_wp2
                go_roundw
                case rel => exact ⟨0 + 2, by omega, by omega, by go_num, BZ.out, OZ.out⟩
                case measure => simp [intOf] <;> omega
              · obtain rfl : y = 0 := by omega
                clear h1
                go_wp2
                go_roundw
                case rel => exact ⟨2, by omega, by omega, by go_num, WB2.out, WO2.out⟩
                case measure => simp [intOf] <;> omega
            · by_cases h1 : 1 ≤ x
              · have hd : decide ((x : Int) > 0) = true := decide_eq_true (by omega)
                go_wp2_with fail
                refine (HE.out _ WO2.out 0 true (by omega) (by omega) (fun _ => .inr h1) (fun h => nomatch h)).mono ?_
                rintro r wz ⟨rfl, oz⟩
                have OZ := Lib.hid (WO2.out.trans oz)
                have BZ := Lib.hid (oz.heap WB2.out (by simp))
                clear oz WO2 WB2
                go_wp2
                go_roundw
                case rel => exact ⟨0 + 2, by omega, by omega, by go_num, BZ.out, OZ.out⟩
                case measure => simp [intOf] <;> omega
              · obtain rfl : x = 0 := by omega
                clear h1
                go_wp2
                go_roundw
                case rel => exact ⟨2, by omega, by omega, by go_num, WB2.out, WO2.out⟩
                case measure => simp [intOf] <;> omega
        · obtain rfl : e = 4 := by omega
          have WB2 := Lib.hid hb
          have WO2 := Lib.hid ho
          clear hb ho hes
          go_wp2
          go_roundw
          case rel => exact ⟨j + 1, by omega, by go_num, WB2.out, WO2.out⟩
          case measure => simp [intOf] <;> omega
    · obtain rfl : j = 2 := by omega
      have WO := Lib.hid ho
      clear ho hb
      go_wp2
      go_end0
      exact ⟨rfl, WO.out⟩
end Go.Proofs.YtcmehedjdfopdaaGreat

namespace Go.Proofs.YtcmehedjdfopdaaGreat
open Go Go.RowKit

def edA : List Int := [4, 4, 5, 6, 7, 8, 9, 10, 12, 13, 15, 17, 20, 22, 25, 28, 32, 36, 40, 45, 50, 56, 63, 71, 80, 90, 101, 113, 127, 144, 162, 182, 203, 226, 255, 255]
def edB : List Int := [2, 2, 2, 3, 3, 3, 3, 4, 4, 4, 6, 6, 7, 7, 8, 8, 9, 9, 10, 10, 11, 11, 12, 12, 13, 13, 14, 14, 15, 15, 16, 16, 17, 17, 18, 18]
def edC : List Int := [0, 0, 1, 0, 0, 1, 0, 0, 1, 0, 0, 1, 0, 1, 1, 0, 1, 1, 1, 1, 1, 1, 1, 1, 1, 1, 1, 1, 1, 1, 1, 1, 2, 1, 1, 2, 1, 1, 2, 1, 1, 2, 1, 2, 3, 1, 2, 3, 2, 2, 3, 2, 2, 4, 2, 3, 4, 2, 3, 4, 3, 3, 5, 3, 4, 6, 3, 4, 6, 4, 5, 7, 4, 5, 8, 4, 6, 9, 5, 7, 10, 6, 8, 11, 6, 8, 13, 7, 10, 14, 8, 11, 16, 9, 12, 18, 10, 13, 20, 11, 15, 23, 13, 17, 25]
def z16i : List Int := List.replicate 16 0
def z36i : List Int := List.replicate 36 0
def z51i : List Int := List.replicate 51 0
def z105i : List Int := List.replicate 105 0
def edRest (a b c : List Int) : List Value := (z16i ++ a ++ (z16i ++ b) ++ (z51i ++ c)).map (Value.int .i64)

theorem run_copy_rows {P : Program} (w : World) (dT sT ty elem : TypeId) (g o dLen dCap : Nat) (a : Addr) (sLen sCap : Nat) (cur : Array Value) (t : TypeId) (cs : List Value) (s : Nat)
    (hu : P.underlying dT = some (.slice elem)) (hs : (P.info? elem).map (·.size) = some s)
    (hg : w.heap[g]? = some (.cells cur t (0, 0))) (hn : cs.length = Nat.min sLen dLen * s)
    (hsrc : ∀ j v, cs[j]? = some v → w.cell? (a.add j) = some v) (hfit : o + cs.length ≤ cur.size) (h1 : ∀ v ∈ cs, v.oneCell' = true) :
    (Builtin.copy_ #[dT, sT] ty #[.slice (some ⟨g, o, none⟩) dLen dCap, .slice (some a) sLen sCap]).run P w =
      .ok (goInt (Nat.min sLen dLen)) (w.setRow g (cur.toList.take o ++ cs ++ cur.toList.drop (o + cs.length)).toArray) := by
  have hl := run_loadCells_list (P := P) w a cs hsrc
  have hst := run_storeCells_at P g o t cs 0 cur w hg (by simpa using hfit) h1
  cases hq : P.info? elem with
  | none => simp [hq] at hs
  | some i =>
    have hi : i.size = s := by simpa [hq] using hs
    rw [hn] at hl
    simp only [Nat.add_zero] at hst
    simp [Builtin.copy_, run_underlying hu, Builtin.lenOf, Builtin.firstCells, sizeOf, typeInfo, hq, hi, hl, hst]
theorem copy_rows_eq {P : Program} (w : World) (dT sT ty elem : TypeId) (g o dLen dCap : Nat) (a : Addr) (sLen sCap : Nat) (cur : Array Value) (t : TypeId) (cs : List Value) (s : Nat)
    (hu : P.underlying dT = some (.slice elem)) (hs : (P.info? elem).map (·.size) = some s)
    (hg : w.heap[g]? = some (.cells cur t (0, 0))) (hn : cs.length = Nat.min sLen dLen * s)
    (hsrc : ∀ j v, cs[j]? = some v → w.cell? (a.add j) = some v) (hfit : o + cs.length ≤ cur.size) (h1 : ∀ v ∈ cs, v.oneCell' = true) :
    ∃ w', (Builtin.copy_ #[dT, sT] ty #[.slice (some ⟨g, o, none⟩) dLen dCap, .slice (some a) sLen sCap]).run P w = .ok (goInt (Nat.min sLen dLen)) w' ∧ w'.heap[g]? = some (.cells (cur.toList.take o ++ (cs ++ cur.toList.drop (o + cs.length))).toArray t (0, 0)) ∧ Only [g] w w' := by
  refine ⟨_, run_copy_rows (P := P) w dT sT ty elem g o dLen dCap a sLen sCap cur t cs s hu hs hg hn hsrc hfit h1, ?_, ⟨rfl, rfl, rfl, by simp [World.setRow], fun k _ hk => setRow_other w g k _ (by simpa using hk)⟩⟩
  rw [← List.append_assoc]
  exact setRow_heap w g cur _ t _ hg
theorem wpList_literal_n {P : Program} {w : World} {ops : Array Oper} {rest : List Oper} {o : Oper} {a : Act} {Q : Exit → Act → World → Prop} (hgd : o.guard = none) (t : TypeId) (len : Nat) (parts : Array (Nat × Operand))
    (ho : o.op = .buildSlice t len parts) {e : TypeId} {z : Value} {size bytes : Nat} (E : Elt P t e z size bytes) (cells : Array Value) (h0 : 0 < len) (hlen : len * size ≤ 16777216)
    (hfill : Instr.fill (fun i => some (i * size, size)) ((Array.range (len * size)).map (z.cells[· % size]!)) (parts.map fun (i, x) => (i, a.eval x)).toList = some cells)
    (h : wpList P ops Q rest (a.put o.dst (.slice (some ⟨w.heap.size, 0, none⟩) len len)) (w.alloc (.cells cells e))) :
    wpList P ops Q (o :: rest) a w := by
  obtain ⟨i, hi, hz, hs, hbt⟩ := info_parts E.hi
  refine wpList_plain hgd fun K hK => ?_
  unfold Oper.wp execOp
  have hzs := E.zs
  have hpos := E.pos
  have hrun : (Instr.buildSlice t len (parts.map fun (i, x) => (i, a.eval x))).run P w = .ok (.slice (some ⟨w.heap.size, 0, none⟩) len len) (w.alloc (.cells cells e)) := by
    have h1 : ¬ (len * size > 16777216) := by omega
    have h2 : ¬ (len * size = 0) := Nat.mul_ne_zero (by omega) (by omega)
    have hfill' : Instr.fill (fun i => some (i * size, size)) ((Array.range (len * size)).map (fun x => z.cells[x % z.cells.size]!)) (parts.map fun (i, x) => (i, a.eval x)).toList = some cells := by rw [hzs]; exact hfill
    simp [Instr.buildSlice, run_underlying E.ht, sizeOf, typeInfo, hi, hs, h1, zeroValue, hz] at hfill' ⊢
    rw [if_neg (by omega)]
    simp [hfill', newRow]
  simp only [ho, Sem.run_bind, hrun, Result.andThen_ok]
  exact hK _ _ h
theorem eltC3 : Elt Tryz.prog 194 59 (.agg #[.int .i64 0, .int .i64 0, .int .i64 0]) 3 24 := ⟨Tryz.underlying194, by kernel_rfl, rfl, by decide⟩

set_option maxRecDepth 100000 in
set_option maxHeartbeats 3200000 in
theorem ed_fill (bx tb : Nat) (w : World) (hx : w.heap[bx]? = some (.cells #[.pointer (some ⟨tb, 0, none⟩)] 156 (0, 0)))
    (hb : w.heap[tb]? = some (.cells (onceCells (.int .u32 0) (.int .i32 1) (edRest z36i z36i z105i)) 160 (0, 0))) :
    Calls Tryz.prog 94 #[.pointer (some ⟨bx, 0, none⟩)] w fun e w'' => e = .returned (.tuple #[]) ∧ w''.heap[tb]? = some (.cells (onceCells (.int .u32 0) (.int .i32 1) (edRest edA edB edC)) 160 (0, 0)) ∧ Only [tb] w w'' := by
  have c0 : w.cell? ⟨bx, 0, none⟩ = some (.pointer (some ⟨tb, 0, none⟩)) := by rw [cells_of hx]; rfl
  have hne : bx ≠ tb := block_ne hx hb (by decide)
  have hlb := lt_of_block hb
  have Hb := Lib.hid hb
  have hls : ∀ (x : List Int) (wx : World) (t : TypeId), ∀ j v, (x.map (Value.int .i64))[j]? = some v → (wx.alloc (.cells (ints x) t)).cell? ((⟨wx.heap.size, 0, none⟩ : Addr).add j) = some v := fun x wx t j v hj => by
    rw [Addr.add_mid, Nat.zero_add, cells_of (heap_alloc_at wx _)]
    unfold ints
    rw [List.getElem?_toArray]
    exact hj
  have Hls := Lib.hid hls
  clear hb hx hls
  obtain ⟨w1, e1, hw, ho⟩ := copy_rows_eq (P := Tryz.prog) (w.alloc (.cells (ints edA) 3)) 58 58 3 3 tb 19 36 36 ⟨w.heap.size, 0, none⟩ 36 36 _ _ (edA.map (Value.int .i64)) 1 Tryz.underlying58 (by kernel_rfl) (heap_alloc_lt _ Hb.out) rfl (Hls.out edA w _) (Nat.le_of_ble_eq_true (by kernel_rfl)) (ints_oneCell _ _)
  have W1 := Lib.hid (show w1.heap[tb]? = some (.cells (onceCells (.int .u32 0) (.int .i32 1) (edRest edA z36i z105i)) 160 (0, 0)) by rw [hw]; rfl)
  have O1 := Lib.hid (((Only.refl [tb] w).alloc _).trans ho)
  have c1 : w1.cell? ⟨bx, 0, none⟩ = some (.pointer (some ⟨tb, 0, none⟩)) := ho.cell (cell_alloc c0) (by simpa using hne)
  clear hw ho Hb
  obtain ⟨w2, e2, hw, ho⟩ := copy_rows_eq (P := Tryz.prog) (w1.alloc (.cells (ints edB) 3)) 58 58 3 3 tb 71 36 36 ⟨w1.heap.size, 0, none⟩ 36 36 _ _ (edB.map (Value.int .i64)) 1 Tryz.underlying58 (by kernel_rfl) (heap_alloc_lt _ W1.out) rfl (Hls.out edB w1 _) (Nat.le_of_ble_eq_true (by kernel_rfl)) (ints_oneCell _ _)
  have W2 := Lib.hid (show w2.heap[tb]? = some (.cells (onceCells (.int .u32 0) (.int .i32 1) (edRest edA edB z105i)) 160 (0, 0)) by rw [hw]; rfl)
  have O2 := Lib.hid ((O1.out.alloc _).trans ho)
  have c2 : w2.cell? ⟨bx, 0, none⟩ = some (.pointer (some ⟨tb, 0, none⟩)) := ho.cell (cell_alloc c1) (by simpa using hne)
  clear hw ho W1 O1
  obtain ⟨w3, e3, hw, ho⟩ := copy_rows_eq (P := Tryz.prog) (w2.alloc (.cells (ints edC) 59)) 194 194 3 59 tb 158 35 35 ⟨w2.heap.size, 0, none⟩ 35 35 _ _ (edC.map (Value.int .i64)) 3 Tryz.underlying194 (by kernel_rfl) (heap_alloc_lt _ W2.out) rfl (Hls.out edC w2 _) (Nat.le_of_ble_eq_true (by kernel_rfl)) (ints_oneCell _ _)
  have W3 := Lib.hid (show w3.heap[tb]? = some (.cells (onceCells (.int .u32 0) (.int .i32 1) (edRest edA edB edC)) 160 (0, 0)) by rw [hw]; rfl)
  have O3 := Lib.hid ((O2.out.alloc _).trans ho)
  clear hw ho W2 O2
  go_enter Tryz.func94, Tryz.ntmps94
  go_wp2_with (first | (refine wpList_literal (w := w) rfl _ 36 _ rfl elt64 rfl (ints edA) (by decide) (by decide) (by kernel_rfl) ?_) | (refine wpList_literal (w := w1) rfl _ 36 _ rfl elt64 rfl (ints edB) (by decide) (by decide) (by kernel_rfl) ?_) | (refine wpList_literal_n (w := w2) rfl _ 35 _ rfl eltC3 (ints edC) (by decide) (by decide) (by kernel_rfl) ?_))
  go_end0
  exact ⟨rfl, W3.out, O3.out⟩

set_option maxRecDepth 100000 in
set_option maxHeartbeats 1600000 in
theorem ed_get (tb : Nat) (w : World) (hb : w.heap[tb]? = some (.cells (onceCells (.int .u32 0) (.int .i32 0) (edRest z36i z36i z105i)) 160 (0, 0))) :
    Calls Tryz.prog 67 #[.pointer (some ⟨tb, 0, none⟩)] w fun e w' => e = .returned (.pointer (some ⟨tb, 0, none⟩)) ∧ w'.heap[tb]? = some (.cells (onceCells (.int .u32 1) (.int .i32 0) (edRest edA edB edC)) 160 (0, 0)) ∧ Only [tb] w w' := by
  have hlt := lt_of_block hb
  have hmf : ∀ (fn : Fn) (first cap : Array Value) (w : World), (Instr.makeFunc fn first cap).run Tryz.prog w = .ok (.func fn first cap) w := fun _ _ _ _ => rfl
  have hX := heap_alloc_at w (.cells #[.pointer (some ⟨tb, 0, none⟩)] 156)
  have hT := heap_alloc_lt (.cells #[.pointer (some ⟨tb, 0, none⟩)] 156) hb
  have hO : Only [] w (w.alloc (.cells #[.pointer (some ⟨tb, 0, none⟩)] 156)) := (Only.refl [] w).alloc _
  have hdo := once_table 94 #[.pointer (some ⟨w.heap.size, 0, none⟩)] (fun w => run_enter Tryz.func94 (by kernel_rfl) (by kernel_rfl) _ w) _ tb 160 _ (edRest edA edB edC) hT
    (fun w' h1 h2 => ed_fill w.heap.size tb w' (h2.heap hX (by simp; omega)) h1)
  have Hdo := Lib.hid hdo
  have HX := Lib.hid hX
  have HO := Lib.hid hO
  clear hdo hX hT hO hb
  go_enter Tryz.func67, Tryz.ntmps67
  go_wp2_with fail
  refine Hdo.out.mono ?_
  rintro e w1 ⟨rfl, h1, h2⟩
  have W1 := Lib.hid h1
  have c1 : w1.cell? ⟨w.heap.size, 0, none⟩ = some (.pointer (some ⟨tb, 0, none⟩)) := by rw [cells_of (h2.heap HX.out (by simp; omega))]; rfl
  have O1 := Lib.hid ((HO.out.mono (T := [tb]) (by simp)).trans h2)
  clear h1 h2
  go_wp2
  go_ret
  exact ⟨rfl, W1.out, O1.out⟩

set_option maxRecDepth 100000 in
set_option maxHeartbeats 1600000 in
theorem ed_new (w : World) : Calls Tryz.prog 42 #[] w fun e w' => ∃ lb tb : Nat, e = .returned (.pointer (some ⟨lb, 0, none⟩)) ∧ w.heap.size ≤ lb ∧ w.heap.size ≤ tb ∧ w'.cell? ⟨lb, 0, none⟩ = some (.pointer (some ⟨tb, 0, none⟩)) ∧ w'.cell? ⟨tb, 3, none⟩ = some (.int .i64 0) ∧ w'.cell? ⟨tb, 55, none⟩ = some (.int .i64 0) ∧ Only [] w w' := by
  go_enter Tryz.func42, Tryz.ntmps42
  go_wp2_with fail
  refine (ed_get w.heap.size _ (heap_alloc_at w _)).mono ?_
  rintro e w1 ⟨rfl, h1, h2⟩
  have O1 : Hid (Only [] w w1) := Lib.hid (((Only.refl [] w).alloc _).trans' h2 (fun i hi => .inr (by simp only [List.mem_singleton] at hi; omega)))
  have hlt := lt_of_block h1
  have k1 : w1.cell? ⟨w.heap.size, 3, none⟩ = some (.int .i64 0) := by rw [cells_of h1]; rfl
  have k2 : w1.cell? ⟨w.heap.size, 55, none⟩ = some (.int .i64 0) := by rw [cells_of h1]; rfl
  have K1 := Lib.hid k1
  have K2 := Lib.hid k2
  clear h1 h2 k1 k2
  go_wp2
  go_ret
  exact ⟨_, _, rfl, by omega, Nat.le_refl _, by rw [cells_of (heap_alloc_at w1 _)]; rfl, cell_alloc K1.out, cell_alloc K2.out, O1.out.alloc _⟩
end Go.Proofs.YtcmehedjdfopdaaGreat
