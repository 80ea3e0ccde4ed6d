/-
  The walks over package syntax's Told and Refs for macroblocks that are drawn within their picture. The walks over package syntax's lists, mayPart and mayRefs for parts of skipped macroblocks.
-/
import Derived.Test.YtcmehedjdfopdaaGreatJ20
import Derived.Test.YtcmehedjdfopdaaGreatJ19
namespace Go.Proofs.YtcmehedjdfopdaaGreat
open Go.RowKit

/-- A macroblock as a value: what is looked at. -/
structure MbIs (Mc : Array Value) (kd whole chroma qp d : Int) (pcm : Value) (Ms Ps : List Value) : Prop where
  sz : Mc.size = 483
  one : Mc.all (·.oneCell') = true
  k0 : Mc[0]? = some (.int .i64 kd)
  k1 : Mc[1]? = some (.int .i64 0)
  k18 : Mc[18]? = some (.int .i64 whole)
  k19 : Mc[19]? = some (.int .i64 chroma)
  k48 : Mc[48]? = some (.int .i64 0)
  k49 : Mc[49]? = some (.int .i64 qp)
  k482 : Mc[482]? = some pcm
  md : ∀ i, i < 16 → Mc[2 + i]? = Ms[i]?
  pt : ∀ i, i < 28 → Mc[20 + i]? = Ps[i]?
  co : ∀ i, i < 384 → Mc[50 + i]? = some (.int .i64 0)
  dc : ∀ i, i < 48 → Mc[434 + i]? = some (.int .i64 (if i = 0 then d else 0))
  lm : Ms.length = 16
  lp : Ps.length = 28
theorem MbIs.cf {Mc : Array Value} {kd whole chroma qp d : Int} {pcm : Value} {Ms Ps : List Value} (h : MbIs Mc kd whole chroma qp d pcm Ms Ps) {w : World} {mb : Nat} (hb : w.heap[mb]? = some (.cells Mc 48 (0, 0))) : CoefAt w mb d := by
  have zs : ∀ j v, z16[j]? = some v → j < 16 ∧ v = .int .i64 0 := fun j v hj => by
    have hl : j < 16 := by have := (List.getElem?_eq_some_iff.1 hj).1; simpa [z16] using this
    rw [z16_at j hl] at hj
    exact ⟨hl, by simpa using hj.symm⟩
  refine ⟨fun k hk j v hj => ?_, fun j v hj => ?_, fun j v hj => ?_, fun j v hj => ?_⟩
  · obtain ⟨hl, rfl⟩ := zs j v hj
    rw [cells_of hb, show 50 + k * 16 + j = 50 + (k * 16 + j) by omega]
    exact h.co _ (by omega)
  · have hl : j < 16 := by have := (List.getElem?_eq_some_iff.1 hj).1; simpa [dcL] using this
    rw [cells_of hb, h.dc j (by omega), ← hj]
    cases j with
    | zero => rfl
    | succ j => rw [if_neg (by omega)]; simp only [dcL, List.map_cons, List.getElem?_cons_succ, List.getElem?_map, List.getElem?_replicate]; rw [if_pos (by omega)]; rfl
  · obtain ⟨hl, rfl⟩ := zs j v hj
    rw [cells_of hb, show 450 + j = 434 + (16 + j) by omega, h.dc _ (by omega), if_neg (by omega)]
  · obtain ⟨hl, rfl⟩ := zs j v hj
    rw [cells_of hb, show 466 + j = 434 + (32 + j) by omega, h.dc _ (by omega), if_neg (by omega)]
theorem MbIs.at {Mc : Array Value} {kd whole chroma qp d : Int} {pcm : Value} {Ms Ps : List Value} (h : MbIs Mc kd whole chroma qp d pcm Ms Ps) {w : World} {mb : Nat} (hb : w.heap[mb]? = some (.cells Mc 48 (0, 0))) : MbAt w mb kd whole chroma qp d pcm :=
  ⟨by rw [cells_of hb]; exact h.k0, by rw [cells_of hb]; exact h.k1, by rw [cells_of hb]; exact h.k18, by rw [cells_of hb]; exact h.k19, by rw [cells_of hb]; exact h.k48, by rw [cells_of hb]; exact h.k49, by rw [cells_of hb]; exact h.k482, h.cf hb⟩
theorem MbIs.modes {Mc : Array Value} {kd whole chroma qp d : Int} {pcm : Value} {Ms Ps : List Value} (h : MbIs Mc kd whole chroma qp d pcm Ms Ps) {w : World} {mb : Nat} (hb : w.heap[mb]? = some (.cells Mc 48 (0, 0))) : w.rangeAt mb 2 Ms := fun j v hj => by
  rw [cells_of hb, h.md j (by have := (List.getElem?_eq_some_iff.1 hj).1; rw [h.lm] at this; exact this)]
  exact hj
theorem MbIs.parts {Mc : Array Value} {kd whole chroma qp d : Int} {pcm : Value} {Ms Ps : List Value} (h : MbIs Mc kd whole chroma qp d pcm Ms Ps) {w : World} {mb : Nat} (hb : w.heap[mb]? = some (.cells Mc 48 (0, 0))) : w.rangeAt mb 20 Ps := fun j v hj => by
  rw [cells_of hb, h.pt j (by have := (List.getElem?_eq_some_iff.1 hj).1; rw [h.lp] at this; exact this)]
  exact hj
def z28 : List Value := [.int .i64 0, .int .i64 0, .int .i64 0, .int .i64 0, .int .i64 0, .int .i64 0, .int .i64 0, .int .i64 0, .int .i64 0, .int .i64 0, .int .i64 0, .int .i64 0, .int .i64 0, .int .i64 0, .int .i64 0, .int .i64 0, .int .i64 0, .int .i64 0, .int .i64 0, .int .i64 0, .int .i64 0, .int .i64 0, .int .i64 0, .int .i64 0, .int .i64 0, .int .i64 0, .int .i64 0, .int .i64 0]

set_option maxRecDepth 100000 in
set_option maxHeartbeats 1600000 in
theorem sy_toldI (Mc Hc : Array Value) (kd whole chroma qp d : Int) (pcm : Value) (Ms : List Value) (hk : kd = 0 ∨ kd = 1 ∨ kd = 2) (w : World) (hM : MbIs Mc kd whole chroma qp d pcm Ms z28) (hH : Hc[2]? = some (.int .i64 2))
    (hB : ∀ (wx : World) (mb : Nat), wx.heap[mb]? = some (.cells Mc 48 (0, 0)) → Calls Tryz.prog 45 #[.pointer (some ⟨mb, 0, none⟩), .int .i64 2] wx fun e w' => e = .returned (.bool true) ∧ Only [] wx w') :
    Calls Tryz.prog 27 #[.agg Mc, .agg Hc] w fun e w' => e = .returned (.bool true) ∧ Only [] w w' := by
  have HB := Lib.hid hB
  have HM := Lib.hid hM
  have hk4 : ((kd : Int) == 4) = false := by rcases hk with rfl | rfl | rfl <;> rfl
  have hk3 : ((kd : Int) == 3) = false := by rcases hk with rfl | rfl | rfl <;> rfl
  have hk5 : ((kd : Int) == 5) = false := by rcases hk with rfl | rfl | rfl <;> rfl
  have heq : ∀ w, (Op.equalIn 10000 43 (.agg z28.toArray) (.agg #[.int .i64 0, .int .i64 0, .int .i64 0, .int .i64 0, .int .i64 0, .int .i64 0, .int .i64 0, .int .i64 0, .int .i64 0, .int .i64 0, .int .i64 0, .int .i64 0, .int .i64 0, .int .i64 0, .int .i64 0, .int .i64 0, .int .i64 0, .int .i64 0, .int .i64 0, .int .i64 0, .int .i64 0, .int .i64 0, .int .i64 0, .int .i64 0, .int .i64 0, .int .i64 0, .int .i64 0, .int .i64 0])).run Tryz.prog w = .ok true w := fun _ => by kernel_rfl
  have A0 := Lib.hid (heap_alloc2_old w (.cells Mc 48) (.cells Hc 27))
  have A1 := Lib.hid (heap_alloc2_new w (.cells Mc 48) (.cells Hc 27))
  have OA : Hid (Only [] w ((w.alloc (.cells Mc 48)).alloc (.cells Hc 27))) := Lib.hid (((Only.refl [] w).alloc _).alloc _)
  have f1 : ((w.alloc (.cells Mc 48)).alloc (.cells Hc 27)).cell? ⟨w.heap.size + 1, 2, none⟩ = some (.int .i64 2) := by rw [cells_of A1.out]; exact hH
  have hpa := (show (Tryz.prog.info? 43).map (·.size) = some z28.length by kernel_rfl)
  clear hM hB hk hH
  go_enter Tryz.func27, Tryz.ntmps27
  go_wp2_with fail
  refine (HB.out _ _ A0.out).mono ?_
  rintro e w1 ⟨rfl, o1⟩
  have B0 := Lib.hid (o1.heap A0.out (by simp))
  have O1 := Lib.hid (OA.out.trans o1)
  have e0 := (HM.out.at B0.out).k0
  have hp := HM.out.parts B0.out
  have HP := Lib.hid hp
  have HPA := Lib.hid hpa
  clear o1 f1 hp hpa OA
  go_wp2_with (with_reducible refine wpList_load_mid rfl _ _ rfl w.heap.size 20 rfl z28 _ HP.out Tryz.underlying43 rfl HPA.out ?_)
  go_wp2
  go_ret
  exact ⟨rfl, O1.out⟩
theorem sy_refsI (Mc Hc : Array Value) (kd : Int) (hk : kd = 0 ∨ kd = 1 ∨ kd = 2) (w : World) (hM : Mc[0]? = some (.int .i64 kd)) :
    Calls Tryz.prog 28 #[.agg Mc, .agg Hc] w fun e w' => e = .returned (.bool true) ∧ Only [] w w' := by
  have A0 := Lib.hid (heap_alloc2_old w (.cells Mc 48) (.cells Hc 27))
  have OA : Hid (Only [] w ((w.alloc (.cells Mc 48)).alloc (.cells Hc 27))) := Lib.hid (((Only.refl [] w).alloc _).alloc _)
  have f0 : ((w.alloc (.cells Mc 48)).alloc (.cells Hc 27)).cell? ⟨w.heap.size, 0, none⟩ = some (.int .i64 kd) := by rw [cells_of A0.out]; exact hM
  have HK := Lib.hid hk
  clear hk hM A0
  go_enter Tryz.func28, Tryz.ntmps28
  go_wp2_with fail
  refine (sy_within kd HK.out _).mono ?_
  rintro e w' ⟨rfl, rfl⟩
  go_wp2
  go_ret
  exact ⟨rfl, OA.out⟩
end Go.Proofs.YtcmehedjdfopdaaGreat

namespace Go.Proofs.YtcmehedjdfopdaaGreat
open Go.RowKit

theorem sy_listsL (w : World) : Calls Tryz.prog 75 #[.int .i64 0] w fun e w' => e = .returned (.agg #[.bool true, .bool false]) ∧ Only [] w w' := by
  have hi2 : (Tryz.prog.info? 169).map (·.size) = some 2 := by kernel_rfl
  go_enter Tryz.func75, Tryz.ntmps75
  go_wp2
  exact ret_cell rfl w.heap.size rfl (heap_alloc_at w _) Tryz.underlying169 rfl hi2 rfl ⟨rfl, (Only.refl [] w).alloc _⟩
theorem sy_listsB (w : World) : Calls Tryz.prog 75 #[.int .i64 2] w fun e w' => e = .returned (.agg #[.bool true, .bool true]) ∧ Only [] w w' := by
  have hi2 : (Tryz.prog.info? 169).map (·.size) = some 2 := by kernel_rfl
  go_enter Tryz.func75, Tryz.ntmps75
  go_wp2
  exact ret_cell rfl w.heap.size rfl (heap_alloc_at w _) Tryz.underlying169 rfl hi2 rfl ⟨rfl, (Only.refl [] w).alloc _⟩

set_option maxRecDepth 100000 in
set_option maxHeartbeats 1600000 in
theorem sy_partL (x y : Int) (x0 : 0 ≤ x) (x1 : x ≤ 31) (y0 : 0 ≤ y) (y1 : y ≤ 31) (w : World) :
    Calls Tryz.prog 47 #[.agg #[.int .i64 0, .int .i64 0, .int .i64 (-1), .int .i64 x, .int .i64 y, .int .i64 0, .int .i64 0], .int .i64 0, .int .i64 0, .bool false] w fun e w' => e = .returned (.bool true) ∧ Only [] w w' := by
  have A0 := Lib.hid (heap_alloc_at w (.cells #[.int .i64 0, .int .i64 0, .int .i64 (-1), .int .i64 x, .int .i64 y, .int .i64 0, .int .i64 0] 42))
  have OA : Hid (Only [] w (w.alloc (.cells #[.int .i64 0, .int .i64 0, .int .i64 (-1), .int .i64 x, .int .i64 y, .int .i64 0, .int .i64 0] 42))) := Lib.hid ((Only.refl [] w).alloc _)
  have i0 : ∀ w, (Instr.index 169 (.agg #[.bool true, .bool false]) (.int .i64 0)).run Tryz.prog w = .ok (.bool true) w := fun _ => by kernel_rfl
  have i1 : ∀ w, (Instr.index 169 (.agg #[.bool true, .bool false]) (.int .i64 1)).run Tryz.prog w = .ok (.bool false) w := fun _ => by kernel_rfl
  have heq : ∀ w, (Op.equalIn 10000 39 (.agg #[.int .i64 0, .int .i64 0]) (.agg #[.int .i64 0, .int .i64 0])).run Tryz.prog w = .ok true w := fun _ => by kernel_rfl
  go_enter Tryz.func47, Tryz.ntmps47
  go_wp2_with fail
  refine (sy_in _ _ _ (by decide) (by decide) _).mono ?_
  rintro e w' ⟨rfl, rfl⟩
  go_wp2_with fail
  refine (sy_listsL _).mono ?_
  rintro e w1 ⟨rfl, o1⟩
  have B0 := Lib.hid (o1.heap A0.out (by simp))
  have O1 := Lib.hid (OA.out.trans o1)
  have hz1 := o1.size
  have hz2 : w.heap.size < w1.heap.size := lt_of_block B0.out
  clear o1 OA A0 hz1
  go_wp2
  go_loopw [47] (fun q wr => (q = .int .i64 0 ∧ Only [] w1 wr) ∨ (q = .int .i64 1 ∧ Only [] w1 wr) ∨ (q = .int .i64 2 ∧ Only [] w1 wr)) (fun q _ => 2 - (intOf q).toNat)
  case atStart => exact .inl ⟨rfl, Only.refl _ _⟩
  case round =>
    rcases hrel with ⟨rfl, ho⟩ | ⟨rfl, ho⟩ | ⟨rfl, ho⟩
    · have g1 : wr.cell? ⟨w.heap.size, 1, none⟩ = some (.int .i64 0) := by rw [cells_of (ho.heap B0.out (by simp))]; rfl
      have g2 : wr.cell? ⟨w.heap.size, 2, none⟩ = some (.int .i64 (-1)) := by rw [cells_of (ho.heap B0.out (by simp))]; rfl
      have g3 : wr.cell? ⟨w.heap.size, 3, none⟩ = some (.int .i64 x) := by rw [cells_of (ho.heap B0.out (by simp))]; rfl
      have g4 : wr.cell? ⟨w.heap.size, 4, none⟩ = some (.int .i64 y) := by rw [cells_of (ho.heap B0.out (by simp))]; rfl
      have g5 := cell_alloc (o := (.cells #[.int .i64 x, .int .i64 y] 39)) g1
      have g6 := cell_alloc (o := (.cells #[.int .i64 x, .int .i64 y] 39)) g2
      have O2 := Lib.hid (ho.alloc (.cells #[.int .i64 x, .int .i64 y] 39))
      clear ho
      go_wp2_with fail
      refine (sy_in _ _ _ (by omega) (by omega) _).mono ?_
      rintro e w' ⟨rfl, rfl⟩
      go_wp2_with fail
      refine (sy_in _ _ _ (by omega) (by omega) _).mono ?_
      rintro e w' ⟨rfl, rfl⟩
      go_wp2
      go_roundw
      case rel => exact .inr (.inl ⟨by go_num, O2.out⟩)
      case measure => simp [intOf] <;> omega
    · have g1 : wr.cell? ⟨w.heap.size, 1, none⟩ = some (.int .i64 0) := by rw [cells_of (ho.heap B0.out (by simp))]; rfl
      have g2 : wr.cell? ⟨w.heap.size, 2, none⟩ = some (.int .i64 (-1)) := by rw [cells_of (ho.heap B0.out (by simp))]; rfl
      have g3 : wr.cell? ⟨w.heap.size, 5, none⟩ = some (.int .i64 0) := by rw [cells_of (ho.heap B0.out (by simp))]; rfl
      have g4 : wr.cell? ⟨w.heap.size, 6, none⟩ = some (.int .i64 0) := by rw [cells_of (ho.heap B0.out (by simp))]; rfl
      have g5 := cell_alloc (o := (.cells #[.int .i64 0, .int .i64 0] 39)) g1
      have g6 := cell_alloc (o := (.cells #[.int .i64 0, .int .i64 0] 39)) g2
      have O2 := Lib.hid (ho.alloc (.cells #[.int .i64 0, .int .i64 0] 39))
      clear ho
      go_wp2_with fail
      refine (sy_in _ _ _ (by decide) (by decide) _).mono ?_
      rintro e w' ⟨rfl, rfl⟩
      go_wp2_with fail
      refine (sy_in _ _ _ (by decide) (by decide) _).mono ?_
      rintro e w' ⟨rfl, rfl⟩
      go_wp2
      go_roundw
      case rel => exact .inr (.inr ⟨by go_num, O2.out⟩)
      case measure => simp [intOf] <;> omega
    · have O2 := Lib.hid (O1.out.trans ho)
      clear ho
      go_wp2
      go_ret
      exact ⟨rfl, O2.out⟩

set_option maxRecDepth 100000 in
set_option maxHeartbeats 1600000 in
theorem sy_refsL (x y : Int) (hb : Nat) (w : World) (h7 : w.cell? ⟨hb, 7, none⟩ = some (.int .i64 1)) (h8 : w.cell? ⟨hb, 8, none⟩ = some (.int .i64 0)) :
    Calls Tryz.prog 49 #[.agg #[.int .i64 0, .int .i64 0, .int .i64 (-1), .int .i64 x, .int .i64 y, .int .i64 0, .int .i64 0], .pointer (some ⟨hb, 0, none⟩)] w fun e w' => e = .returned (.bool true) ∧ Only [] w w' := by
  have A0 := Lib.hid (heap_alloc_at w (.cells #[.int .i64 0, .int .i64 0, .int .i64 (-1), .int .i64 x, .int .i64 y, .int .i64 0, .int .i64 0] 42))
  have OA : Hid (Only [] w (w.alloc (.cells #[.int .i64 0, .int .i64 0, .int .i64 (-1), .int .i64 x, .int .i64 y, .int .i64 0, .int .i64 0] 42))) := Lib.hid ((Only.refl [] w).alloc _)
  have i0 : ∀ w, (Instr.index 169 (.agg #[.bool true, .bool false]) (.int .i64 0)).run Tryz.prog w = .ok (.bool true) w := fun _ => by kernel_rfl
  have i1 : ∀ w, (Instr.index 169 (.agg #[.bool true, .bool false]) (.int .i64 1)).run Tryz.prog w = .ok (.bool false) w := fun _ => by kernel_rfl
  have j0 : ∀ w, (Instr.index 37 (.agg #[.int .i64 1, .int .i64 0]) (.int .i64 0)).run Tryz.prog w = .ok (.int .i64 1) w := fun _ => by kernel_rfl
  have j1 : ∀ w, (Instr.index 37 (.agg #[.int .i64 1, .int .i64 0]) (.int .i64 1)).run Tryz.prog w = .ok (.int .i64 0) w := fun _ => by kernel_rfl
  have q0 : IntKind.i64.wrap (1 - 1) = 0 := by decide
  go_enter Tryz.func49, Tryz.ntmps49
  go_wp2_with fail
  refine (sy_listsL _).mono ?_
  rintro e w1 ⟨rfl, o1⟩
  have B0 := Lib.hid (o1.heap A0.out (by simp))
  have O1 := Lib.hid (OA.out.trans o1)
  have e7 := O1.out.cell h7 (by simp)
  have e8 := O1.out.cell h8 (by simp)
  clear o1 OA A0 h7 h8
  go_wp2
  go_loopw [10] (fun q wr => (q = .int .i64 0 ∧ Only [] w1 wr) ∨ (q = .int .i64 1 ∧ Only [] w1 wr) ∨ (q = .int .i64 2 ∧ Only [] w1 wr)) (fun q _ => 2 - (intOf q).toNat)
  case atStart => exact .inl ⟨rfl, Only.refl _ _⟩
  case round =>
    rcases hrel with ⟨rfl, ho⟩ | ⟨rfl, ho⟩ | ⟨rfl, ho⟩
    · have g1 : wr.cell? ⟨w.heap.size, 1, none⟩ = some (.int .i64 0) := by rw [cells_of (ho.heap B0.out (by simp))]; rfl
      have g7 := ho.cell e7 (by simp)
      have g8 := ho.cell e8 (by simp)
      have O2 := Lib.hid ho
      clear ho
      go_wp2_with fail
      go_quiet ((go_at_call 73; exact Calls.quiet_of_same ((sy_in _ _ _ (by decide) (by decide) _).mono fun _ _ ⟨h1, h2⟩ => ⟨h1, h2.symm⟩)))
      go_wp2
      go_roundw
      case rel => exact .inr (.inl ⟨by go_num, O2.out.drewN _⟩)
      case measure => simp [intOf] <;> omega
    · have g1 : wr.cell? ⟨w.heap.size, 2, none⟩ = some (.int .i64 (-1)) := by rw [cells_of (ho.heap B0.out (by simp))]; rfl
      have g7 := ho.cell e7 (by simp)
      have g8 := ho.cell e8 (by simp)
      have O2 := Lib.hid ho
      clear ho
      go_wp2_with fail
      go_quiet ((go_at_call 73; exact Calls.quiet_of_same ((sy_in _ _ _ (by decide) (by decide) _).mono fun _ _ ⟨h1, h2⟩ => ⟨h1, h2.symm⟩)))
      go_wp2
      go_roundw
      case rel => exact .inr (.inr ⟨by go_num, O2.out.drewN _⟩)
      case measure => simp [intOf] <;> omega
    · have O2 := Lib.hid (O1.out.trans ho)
      clear ho
      go_wp2
      go_ret
      exact ⟨rfl, O2.out⟩

set_option maxRecDepth 100000 in
set_option maxHeartbeats 1600000 in
theorem sy_partB (w : World) :
    Calls Tryz.prog 47 #[.agg #[.int .i64 2, .int .i64 0, .int .i64 0, .int .i64 0, .int .i64 0, .int .i64 0, .int .i64 0], .int .i64 1, .int .i64 0, .bool false] w fun e w' => e = .returned (.bool true) ∧ Only [] w w' := by
  have A0 := Lib.hid (heap_alloc_at w (.cells #[.int .i64 2, .int .i64 0, .int .i64 0, .int .i64 0, .int .i64 0, .int .i64 0, .int .i64 0] 42))
  have OA : Hid (Only [] w (w.alloc (.cells #[.int .i64 2, .int .i64 0, .int .i64 0, .int .i64 0, .int .i64 0, .int .i64 0, .int .i64 0] 42))) := Lib.hid ((Only.refl [] w).alloc _)
  have i0 : ∀ w, (Instr.index 169 (.agg #[.bool true, .bool true]) (.int .i64 0)).run Tryz.prog w = .ok (.bool true) w := fun _ => by kernel_rfl
  have i1 : ∀ w, (Instr.index 169 (.agg #[.bool true, .bool true]) (.int .i64 1)).run Tryz.prog w = .ok (.bool true) w := fun _ => by kernel_rfl
  have heq : ∀ w, (Op.equalIn 10000 39 (.agg #[.int .i64 0, .int .i64 0]) (.agg #[.int .i64 0, .int .i64 0])).run Tryz.prog w = .ok true w := fun _ => by kernel_rfl
  go_enter Tryz.func47, Tryz.ntmps47
  go_wp2_with fail
  refine (sy_in _ _ _ (by decide) (by decide) _).mono ?_
  rintro e w' ⟨rfl, rfl⟩
  go_wp2_with fail
  refine (sy_listsB _).mono ?_
  rintro e w1 ⟨rfl, o1⟩
  have B0 := Lib.hid (o1.heap A0.out (by simp))
  have O1 := Lib.hid (OA.out.trans o1)
  have hz1 := o1.size
  have hz2 : w.heap.size < w1.heap.size := lt_of_block B0.out
  clear o1 OA A0 hz1
  go_wp2
  go_loopw [47] (fun q wr => (q = .int .i64 0 ∧ Only [] w1 wr) ∨ (q = .int .i64 1 ∧ Only [] w1 wr) ∨ (q = .int .i64 2 ∧ Only [] w1 wr)) (fun q _ => 2 - (intOf q).toNat)
  case atStart => exact .inl ⟨rfl, Only.refl _ _⟩
  case round =>
    rcases hrel with ⟨rfl, ho⟩ | ⟨rfl, ho⟩ | ⟨rfl, ho⟩
    · have g1 : wr.cell? ⟨w.heap.size, 1, none⟩ = some (.int .i64 0) := by rw [cells_of (ho.heap B0.out (by simp))]; rfl
      have g2 : wr.cell? ⟨w.heap.size, 2, none⟩ = some (.int .i64 0) := by rw [cells_of (ho.heap B0.out (by simp))]; rfl
      have g3 : wr.cell? ⟨w.heap.size, 3, none⟩ = some (.int .i64 0) := by rw [cells_of (ho.heap B0.out (by simp))]; rfl
      have g4 : wr.cell? ⟨w.heap.size, 4, none⟩ = some (.int .i64 0) := by rw [cells_of (ho.heap B0.out (by simp))]; rfl
      have g5 := cell_alloc (o := (.cells #[.int .i64 0, .int .i64 0] 39)) g1
      have g6 := cell_alloc (o := (.cells #[.int .i64 0, .int .i64 0] 39)) g2
      have O2 := Lib.hid (ho.alloc (.cells #[.int .i64 0, .int .i64 0] 39))
      clear ho
      go_wp2_with fail
      refine (sy_in _ _ _ (by decide) (by decide) _).mono ?_
      rintro e w' ⟨rfl, rfl⟩
      go_wp2_with fail
      refine (sy_in _ _ _ (by decide) (by decide) _).mono ?_
      rintro e w' ⟨rfl, rfl⟩
      go_wp2
      go_roundw
      case rel => exact .inr (.inl ⟨by go_num, O2.out⟩)
      case measure => simp [intOf] <;> omega
    · have g1 : wr.cell? ⟨w.heap.size, 1, none⟩ = some (.int .i64 0) := by rw [cells_of (ho.heap B0.out (by simp))]; rfl
      have g2 : wr.cell? ⟨w.heap.size, 2, none⟩ = some (.int .i64 0) := by rw [cells_of (ho.heap B0.out (by simp))]; rfl
      have g3 : wr.cell? ⟨w.heap.size, 5, none⟩ = some (.int .i64 0) := by rw [cells_of (ho.heap B0.out (by simp))]; rfl
      have g4 : wr.cell? ⟨w.heap.size, 6, none⟩ = some (.int .i64 0) := by rw [cells_of (ho.heap B0.out (by simp))]; rfl
      have g5 := cell_alloc (o := (.cells #[.int .i64 0, .int .i64 0] 39)) g1
      have g6 := cell_alloc (o := (.cells #[.int .i64 0, .int .i64 0] 39)) g2
      have O2 := Lib.hid (ho.alloc (.cells #[.int .i64 0, .int .i64 0] 39))
      clear ho
      go_wp2_with fail
      refine (sy_in _ _ _ (by decide) (by decide) _).mono ?_
      rintro e w' ⟨rfl, rfl⟩
      go_wp2_with fail
      refine (sy_in _ _ _ (by decide) (by decide) _).mono ?_
      rintro e w' ⟨rfl, rfl⟩
      go_wp2
      go_roundw
      case rel => exact .inr (.inr ⟨by go_num, O2.out⟩)
      case measure => simp [intOf] <;> omega
    · have O2 := Lib.hid (O1.out.trans ho)
      clear ho
      go_wp2
      go_ret
      exact ⟨rfl, O2.out⟩

set_option maxRecDepth 100000 in
set_option maxHeartbeats 1600000 in
theorem sy_refsB (hb : Nat) (w : World) (h7 : w.cell? ⟨hb, 7, none⟩ = some (.int .i64 1)) (h8 : w.cell? ⟨hb, 8, none⟩ = some (.int .i64 1)) :
    Calls Tryz.prog 49 #[.agg #[.int .i64 2, .int .i64 0, .int .i64 0, .int .i64 0, .int .i64 0, .int .i64 0, .int .i64 0], .pointer (some ⟨hb, 0, none⟩)] w fun e w' => e = .returned (.bool true) ∧ Only [] w w' := by
  have A0 := Lib.hid (heap_alloc_at w (.cells #[.int .i64 2, .int .i64 0, .int .i64 0, .int .i64 0, .int .i64 0, .int .i64 0, .int .i64 0] 42))
  have OA : Hid (Only [] w (w.alloc (.cells #[.int .i64 2, .int .i64 0, .int .i64 0, .int .i64 0, .int .i64 0, .int .i64 0, .int .i64 0] 42))) := Lib.hid ((Only.refl [] w).alloc _)
  have i0 : ∀ w, (Instr.index 169 (.agg #[.bool true, .bool true]) (.int .i64 0)).run Tryz.prog w = .ok (.bool true) w := fun _ => by kernel_rfl
  have i1 : ∀ w, (Instr.index 169 (.agg #[.bool true, .bool true]) (.int .i64 1)).run Tryz.prog w = .ok (.bool true) w := fun _ => by kernel_rfl
  have j0 : ∀ w, (Instr.index 37 (.agg #[.int .i64 1, .int .i64 1]) (.int .i64 0)).run Tryz.prog w = .ok (.int .i64 1) w := fun _ => by kernel_rfl
  have j1 : ∀ w, (Instr.index 37 (.agg #[.int .i64 1, .int .i64 1]) (.int .i64 1)).run Tryz.prog w = .ok (.int .i64 1) w := fun _ => by kernel_rfl
  have q0 : IntKind.i64.wrap (1 - 1) = 0 := by decide
  go_enter Tryz.func49, Tryz.ntmps49
  go_wp2_with fail
  refine (sy_listsB _).mono ?_
  rintro e w1 ⟨rfl, o1⟩
  have B0 := Lib.hid (o1.heap A0.out (by simp))
  have O1 := Lib.hid (OA.out.trans o1)
  have e7 := O1.out.cell h7 (by simp)
  have e8 := O1.out.cell h8 (by simp)
  clear o1 OA A0 h7 h8
  go_wp2
  go_loopw [10] (fun q wr => (q = .int .i64 0 ∧ Only [] w1 wr) ∨ (q = .int .i64 1 ∧ Only [] w1 wr) ∨ (q = .int .i64 2 ∧ Only [] w1 wr)) (fun q _ => 2 - (intOf q).toNat)
  case atStart => exact .inl ⟨rfl, Only.refl _ _⟩
  case round =>
    rcases hrel with ⟨rfl, ho⟩ | ⟨rfl, ho⟩ | ⟨rfl, ho⟩
    · have g1 : wr.cell? ⟨w.heap.size, 1, none⟩ = some (.int .i64 0) := by rw [cells_of (ho.heap B0.out (by simp))]; rfl
      have g7 := ho.cell e7 (by simp)
      have g8 := ho.cell e8 (by simp)
      have O2 := Lib.hid ho
      clear ho
      go_wp2_with fail
      go_quiet ((go_at_call 73; exact Calls.quiet_of_same ((sy_in _ _ _ (by decide) (by decide) _).mono fun _ _ ⟨h1, h2⟩ => ⟨h1, h2.symm⟩)))
      go_wp2
      go_roundw
      case rel => exact .inr (.inl ⟨by go_num, O2.out.drewN _⟩)
      case measure => simp [intOf] <;> omega
    · have g1 : wr.cell? ⟨w.heap.size, 2, none⟩ = some (.int .i64 0) := by rw [cells_of (ho.heap B0.out (by simp))]; rfl
      have g7 := ho.cell e7 (by simp)
      have g8 := ho.cell e8 (by simp)
      have O2 := Lib.hid ho
      clear ho
      go_wp2_with fail
      go_quiet ((go_at_call 73; exact Calls.quiet_of_same ((sy_in _ _ _ (by decide) (by decide) _).mono fun _ _ ⟨h1, h2⟩ => ⟨h1, h2.symm⟩)))
      go_wp2
      go_roundw
      case rel => exact .inr (.inr ⟨by go_num, O2.out.drewN _⟩)
      case measure => simp [intOf] <;> omega
    · have O2 := Lib.hid (O1.out.trans ho)
      clear ho
      go_wp2
      go_ret
      exact ⟨rfl, O2.out⟩
end Go.Proofs.YtcmehedjdfopdaaGreat
