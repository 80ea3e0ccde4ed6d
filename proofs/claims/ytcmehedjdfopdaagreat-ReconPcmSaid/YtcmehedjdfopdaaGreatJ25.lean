/-
  Laws for great struct values: building, making room for, storing them, their cells behind a name. Planes, plain: what is laid down or added evenly. The walk over package recon's brush.chroma where a mode is refused.
-/
import Derived.Test.YtcmehedjdfopdaaGreatJ23
import Derived.Test.YtcmehedjdfopdaaGreatJ24
import Derived.Test.YtcmehedjdfopdaaGreatJ14
namespace Go.Proofs.YtcmehedjdfopdaaGreat
open Go.RowKit

theorem wpList_buildO {P : Program} {ops : Array Oper} {rest : List Oper} {o : Oper} {a : Act} {w : World} {Q : Exit → Act → World → Prop} (hgd : o.guard = none) (t : TypeId) (parts : Array (Nat × Operand)) (ho : o.op = .build t parts)
    (vs : Array (Nat × Value)) (hv : (parts.map fun (i, x) => (i, a.eval x)) = vs) (cells : Array Value) (hrun : (Instr.build t vs).run P w = .ok (.agg cells) w)
    (h : wpList P ops Q rest (a.put o.dst (.agg cells)) w) : wpList P ops Q (o :: rest) a w := by
  refine wpList_plain hgd fun K hK => ?_
  unfold Oper.wp execOp
  simp only [ho, hv, Sem.run_bind, hrun, Result.andThen_ok]
  exact hK _ _ h
/-- New room for a struct: its cells are not told. -/
theorem wpList_allocO {P : Program} {ops : Array Oper} {rest : List Oper} {o : Oper} {a : Act} {w : World} {Q : Exit → Act → World → Prop} (hgd : o.guard = none) (t : TypeId) (ho : o.op = .alloc t)
    {z : Value} {size : Nat} (hi : (P.info? t).map (fun i => (i.zero, i.size)) = some (some z, size)) (hz : z.cells.size = size)
    (h : ∀ zs : Array Value, zs.size = size → wpList P ops Q rest (a.put o.dst (.pointer (some ⟨w.heap.size, 0, none⟩))) (w.alloc (.cells zs t))) : wpList P ops Q (o :: rest) a w := by
  cases hq : P.info? t with
  | none => simp [hq] at hi
  | some i =>
    obtain ⟨h1, h2⟩ : i.zero = some z ∧ i.size = size := by simpa [hq] using hi
    have hrun : (Instr.alloc t true (.tuple #[])).run P w = .ok (.pointer (some ⟨w.heap.size, 0, none⟩)) (w.alloc (.cells z.cells t)) := by
      simp [Instr.alloc, zeroValue, typeInfo, hq, h1, newVar, newRow]
    refine wpList_plain hgd fun K hK => ?_
    unfold Oper.wp execOp
    simp only [ho, Sem.run_bind, hrun, Result.andThen_ok]
    exact hK _ _ (h z.cells hz)

def zn (n : Nat) : List Value := List.replicate n (.int .i64 0)
theorem zn_length (n : Nat) : (zn n).length = n := by unfold zn; exact List.length_replicate
theorem zn_at (n i : Nat) (h : i < n) : (zn n)[i]? = some (.int .i64 0) := by unfold zn; rw [List.getElem?_replicate, if_pos h]
theorem zn_mem {n : Nat} {v : Value} (h : v ∈ zn n) : v = .int .i64 0 := (List.mem_replicate.1 h).2
/-- A macroblock without coefficients but luma's lowest of all. -/
def mbL (kd whole chroma qp d : Int) (Ms Ps : List Value) (pcm : Value) : List Value :=
  [.int .i64 kd, .int .i64 0] ++ (Ms ++ ([.int .i64 whole, .int .i64 chroma] ++ (Ps ++ ([.int .i64 0, .int .i64 qp] ++ (zn 384 ++ (.int .i64 d :: (zn 47 ++ [pcm])))))))
theorem mbL_length {kd whole chroma qp d : Int} {Ms Ps : List Value} {pcm : Value} (h1 : Ms.length = 16) (h2 : Ps.length = 28) : (mbL kd whole chroma qp d Ms Ps pcm).length = 483 := by
  simp [mbL, h1, h2, zn_length]
theorem mbL_ms {kd whole chroma qp d : Int} {Ms Ps : List Value} {pcm : Value} (h1 : Ms.length = 16) (i : Nat) : (mbL kd whole chroma qp d Ms Ps pcm)[18 + i]? = (([.int .i64 whole, .int .i64 chroma] : List Value) ++ (Ps ++ ([.int .i64 0, .int .i64 qp] ++ (zn 384 ++ (.int .i64 d :: (zn 47 ++ [pcm]))))))[i]? := by
  unfold mbL
  rw [List.getElem?_append_right (by simp; omega), List.getElem?_append_right (by simp [h1]; omega)]
  congr 1
  simp [h1]; omega
theorem mbL_ps {kd whole chroma qp d : Int} {Ms Ps : List Value} {pcm : Value} (h1 : Ms.length = 16) (h2 : Ps.length = 28) (i : Nat) : (mbL kd whole chroma qp d Ms Ps pcm)[48 + i]? = (([.int .i64 0, .int .i64 qp] : List Value) ++ (zn 384 ++ (.int .i64 d :: (zn 47 ++ [pcm]))))[i]? := by
  rw [show 48 + i = 18 + (30 + i) by omega, mbL_ms h1, List.getElem?_append_right (by simp; omega), List.getElem?_append_right (by simp [h2]; omega)]
  congr 1
  simp [h2]; omega
theorem mbL_dc {kd whole chroma qp d : Int} {Ms Ps : List Value} {pcm : Value} (h1 : Ms.length = 16) (h2 : Ps.length = 28) (i : Nat) : (mbL kd whole chroma qp d Ms Ps pcm)[434 + i]? = (Value.int .i64 d :: (zn 47 ++ [pcm]))[i]? := by
  rw [show 434 + i = 48 + (386 + i) by omega, mbL_ps h1 h2, List.getElem?_append_right (by simp; omega), List.getElem?_append_right (by simp [zn_length]; omega), zn_length]
  show (_ : List Value)[386 + i - 2 - 384]? = _
  rw [show 386 + i - 2 - 384 = i by omega]
theorem mbL_is (kd whole chroma qp d : Int) (Ms Ps : List Value) (pcm : Value) (h1 : Ms.length = 16) (h2 : Ps.length = 28) (o1 : ∀ v ∈ Ms, v.oneCell' = true) (o2 : ∀ v ∈ Ps, v.oneCell' = true) (o3 : pcm.oneCell' = true) : MbIs (mbL kd whole chroma qp d Ms Ps pcm).toArray kd whole chroma qp d pcm Ms Ps where
  sz := by rw [List.size_toArray, mbL_length h1 h2]
  one := by
    rw [List.all_toArray, List.all_eq_true]
    intro v hv
    simp only [mbL, List.mem_append, List.mem_cons, List.not_mem_nil, or_false] at hv
    rcases hv with (rfl | rfl) | hv | (rfl | rfl) | hv | (rfl | rfl) | hv | rfl | hv | rfl
    all_goals first | rfl | exact o1 _ hv | exact o2 _ hv | exact o3 | (rw [zn_mem hv]; rfl)
  k0 := rfl
  k1 := rfl
  k18 := by rw [List.getElem?_toArray]; exact mbL_ms h1 0
  k19 := by rw [List.getElem?_toArray]; exact mbL_ms h1 1
  k48 := by rw [List.getElem?_toArray]; exact mbL_ps h1 h2 0
  k49 := by rw [List.getElem?_toArray]; exact mbL_ps h1 h2 1
  k482 := by rw [List.getElem?_toArray, show 482 = 434 + 48 from rfl, mbL_dc h1 h2]; rfl
  md := fun i hi => by
    rw [List.getElem?_toArray]
    unfold mbL
    rw [List.getElem?_append_right (by simp), List.getElem?_append_left (by simp [h1]; omega)]
    congr 1
    simp
  pt := fun i hi => by
    rw [List.getElem?_toArray, show 20 + i = 18 + (2 + i) by omega, mbL_ms h1, List.getElem?_append_right (by simp), List.getElem?_append_left (by simp [h2]; omega)]
    congr 1
    simp
  co := fun i hi => by
    rw [List.getElem?_toArray, show 50 + i = 48 + (2 + i) by omega, mbL_ps h1 h2, List.getElem?_append_right (by simp), List.getElem?_append_left (by simp [zn_length]; omega)]
    exact zn_at _ _ (by simp; omega)
  dc := fun i hi => by
    rw [List.getElem?_toArray, mbL_dc h1 h2]
    cases i with
    | zero => rfl
    | succ i => rw [List.getElem?_cons_succ, List.getElem?_append_left (by rw [zn_length]; omega), zn_at _ _ (by omega), if_neg (by omega)]
  lm := h1
  lp := h2
theorem mbL_setD (kd whole chroma qp d d' : Int) (Ms Ps : List Value) (pcm : Value) (h1 : Ms.length = 16) (h2 : Ps.length = 28) : (mbL kd whole chroma qp d Ms Ps pcm).toArray.setIfInBounds 434 (.int .i64 d') = (mbL kd whole chroma qp d' Ms Ps pcm).toArray := by
  rw [List.setIfInBounds_toArray]
  congr 1
  unfold mbL
  rw [List.set_append_right _ _ (by simp), List.set_append_right _ _ (by simp [h1]), List.set_append_right _ _ (by simp [h1]), List.set_append_right _ _ (by simp [h1, h2]), List.set_append_right _ _ (by simp [h1, h2]), List.set_append_right _ _ (by simp [h1, h2, zn_length])]
  simp [h1, h2, zn_length]
theorem z16_len : z16.length = 16 := rfl
theorem z28_len : z28.length = 28 := rfl
theorem z16_one : ∀ v ∈ z16, v.oneCell' = true := fun v hv => by
  simp only [z16, List.mem_map, List.mem_replicate] at hv
  obtain ⟨x, -, rfl⟩ := hv
  rfl
theorem z28_one : ∀ v ∈ z28, v.oneCell' = true := fun v hv => by
  have h : z28 = List.replicate 28 (.int .i64 0) := rfl
  rw [h] at hv
  rw [(List.mem_replicate.1 hv).2]; rfl
/-- A macroblock of whole modes, as it is written down. -/
theorem build16 (whole qp : Int) (w : World) : (Instr.build 48 #[(0, .int .i64 1), (3, .int .i64 whole), (7, .int .i64 qp)]).run Tryz.prog w = .ok (.agg (mbL 1 whole 0 qp 0 z16 z28 (.slice none 0 0)).toArray) w := by kernel_rfl
theorem mbInfo : (Tryz.prog.info? 48).map (fun i => (i.zero, i.size)) = some (some (.agg (mbL 0 0 0 0 0 z16 z28 (.slice none 0 0)).toArray), 483) := by kernel_rfl
theorem mbZero : (Value.agg (mbL 0 0 0 0 0 z16 z28 (.slice none 0 0)).toArray).cells.size = 483 := by
  show (mbL 0 0 0 0 0 z16 z28 (.slice none 0 0)).toArray.size = 483
  rw [List.size_toArray, mbL_length z16_len z28_len]
theorem mbSet16 (whole qp : Int) : ((Tryz.zeroCells48.setIfInBounds 0 (.int .i64 1)).setIfInBounds 18 (.int .i64 whole)).setIfInBounds 49 (.int .i64 qp) = (mbL 1 whole 0 qp 0 z16 z28 (.slice none 0 0)).toArray := by kernel_rfl
theorem mbSize (kd whole chroma qp d : Int) (Ms Ps : List Value) (pcm : Value) (h1 : Ms.length = 16) (h2 : Ps.length = 28) : (Tryz.prog.info? 48).map (·.size) = some (mbL kd whole chroma qp d Ms Ps pcm).toArray.size := by rw [List.size_toArray, mbL_length h1 h2]; kernel_rfl
theorem mbZeroSize : Tryz.zeroCells48.size = 483 := by kernel_rfl
theorem mbL_one (kd whole chroma qp d : Int) (Ms Ps : List Value) (pcm : Value) (h1 : Ms.length = 16) (h2 : Ps.length = 28) (o1 : ∀ v ∈ Ms, v.oneCell' = true) (o2 : ∀ v ∈ Ps, v.oneCell' = true) (o3 : pcm.oneCell' = true) : (mbL kd whole chroma qp d Ms Ps pcm).toArray.all (·.oneCell') = true := (mbL_is kd whole chroma qp d Ms Ps pcm h1 h2 o1 o2 o3).one
end Go.Proofs.YtcmehedjdfopdaaGreat

namespace Go.Proofs.YtcmehedjdfopdaaGreat
open Go.RowKit

theorem duo_same (a : Int) (fl : List Bool) : duo a a fl = List.replicate fl.length a := by
  induction fl with
  | nil => rfl
  | cons q fl ih => simp only [duo, List.map_cons, ite_self, List.length_cons, List.replicate_succ] at ih ⊢; rw [ih]
theorem putFl_length (pw x y w : Nat) (fl : List Bool) (k : Nat) : (putFl pw x y w fl k).length = fl.length := by
  induction k with
  | zero => rfl
  | succ k ih => rw [putFl, List.length_set, ih]
theorem putTo_same (a : Int) (pw x y w n m k : Nat) (hk : k ≤ n) : putTo pw x y w (List.replicate n a) (List.replicate m a) k = List.replicate m a := by
  have h := putTo_duo a a pw x y w n (List.replicate m false) k hk
  rw [duo_false] at h
  rw [h, duo_same, putFl_length, List.length_replicate]
/-- Places that are fresh, one after the other. -/
def freshTo (pw x y : Nat) (fl : List Bool) (n : Nat) : Bool := (List.range n).all fun k => !(putFl pw x y 4 fl k).getD (spot pw x y 4 k) true
theorem addTo_duo (a q : Int) (pw x y : Nat) (fl : List Bool) : ∀ n, n ≤ 16 → freshTo pw x y fl n = true → addTo pw x y (List.replicate 16 q) (duo a (clip8 (a + q)) fl) n = duo a (clip8 (a + q)) (putFl pw x y 4 fl n) := by
  intro n
  induction n with
  | zero => intro _ _; rfl
  | succ k ih =>
    intro hk hf
    have hf' : freshTo pw x y fl k = true := by
      unfold freshTo at hf ⊢
      rw [List.all_eq_true] at hf ⊢
      exact fun j hj => hf j (by rw [List.mem_range] at hj ⊢; omega)
    have hl : (putFl pw x y 4 fl k).getD (spot pw x y 4 k) true = false := by
      unfold freshTo at hf
      have := List.all_eq_true.1 hf k (by rw [List.mem_range]; omega)
      simpa using this
    have hlt : spot pw x y 4 k < (putFl pw x y 4 fl k).length := by
      rcases Nat.lt_or_ge (spot pw x y 4 k) (putFl pw x y 4 fl k).length with h | h
      · exact h
      · rw [List.getD_eq_getElem?_getD, List.getElem?_eq_none h] at hl; cases hl
    have hq : (List.replicate 16 q).getD k 0 = q := by rw [List.getD_eq_getElem?_getD, List.getElem?_replicate, if_pos (by omega)]; rfl
    have hfl : (putFl pw x y 4 fl k).getD (spot pw x y 4 k) false = false := by
      rw [List.getD_eq_getElem?_getD, List.getElem?_eq_getElem hlt] at hl ⊢
      exact hl
    rw [addTo, ih (by omega) hf', hq, duo_at _ _ _ _ hlt, hfl, putFl, ← duo_set]
    rfl
/-- What luma lifts, block by block, as flags. -/
def lumaFl (pw x : Nat) (fl : List Bool) : Nat → List Bool
  | 0 => fl
  | k + 1 => putFl pw (x * 16 + 4 * blkX k) (0 * 16 + 4 * blkY k) 4 (lumaFl pw x fl k) 16
def lumaFresh (pw x : Nat) (fl : List Bool) (n : Nat) : Bool := (List.range n).all fun k => freshTo pw (x * 16 + 4 * blkX k) (0 * 16 + 4 * blkY k) (lumaFl pw x fl k) 16
theorem lumaTo_duo (a r : Int) (pw x : Nat) (fl : List Bool) : ∀ n, lumaFresh pw x fl n = true → lumaTo pw x r (duo a (clip8 (a + (r + 32) / 64)) fl) n = duo a (clip8 (a + (r + 32) / 64)) (lumaFl pw x fl n) := by
  intro n
  induction n with
  | zero => intro _; rfl
  | succ k ih =>
    intro hf
    unfold lumaFresh at hf
    have hf' : lumaFresh pw x fl k = true := by
      unfold lumaFresh
      rw [List.all_eq_true] at hf ⊢
      exact fun j hj => hf j (by rw [List.mem_range] at hj ⊢; omega)
    have hk := List.all_eq_true.1 hf k (by rw [List.mem_range]; omega)
    rw [lumaTo, ih hf', addTo_duo _ _ _ _ _ _ 16 (by omega) hk]
    rfl
theorem luma_fresh1 : lumaFresh 16 0 (List.replicate 256 false) 16 = true := by kernel_rfl
theorem luma_all1 : lumaFl 16 0 (List.replicate 256 false) 16 = List.replicate 256 true := by kernel_rfl
theorem lumaTo_one (a r : Int) : lumaTo 16 0 r (List.replicate 256 a) 16 = List.replicate 256 (clip8 (a + (r + 32) / 64)) := by
  have h := lumaTo_duo a r 16 0 (List.replicate 256 false) 16 luma_fresh1
  rw [duo_false, luma_all1, duo_true] at h
  exact h
theorem addTo_zero {pl : List Int} (h : okPl pl) (pw x y : Nat) : ∀ n, n ≤ 16 → addTo pw x y (List.replicate 16 0) pl n = pl := by
  intro n
  induction n with
  | zero => intro _; rfl
  | succ k ih =>
    intro hk
    have hq : (List.replicate 16 (0 : Int)).getD k 0 = 0 := by rw [List.getD_eq_getElem?_getD, List.getElem?_replicate, if_pos (by omega)]; rfl
    rw [addTo, ih (by omega), hq, Int.add_zero, clip8_id (h _).1 (h _).2, set_getD]
theorem lumaTo_zero {pl : List Int} (h : okPl pl) (pw x : Nat) : ∀ n, lumaTo pw x 0 pl n = pl := by
  intro n
  induction n with
  | zero => rfl
  | succ k ih =>
    rw [lumaTo, ih]
    exact addTo_zero h _ _ _ 16 (by omega)
end Go.Proofs.YtcmehedjdfopdaaGreat

namespace Go.Proofs.YtcmehedjdfopdaaGreat
open Go.RowKit

set_option maxRecDepth 100000 in
set_option maxHeartbeats 1600000 in
theorem chroma_refused {w : World} {b cb mb db x yb ub vb cy cu cv wide high : Nat} {Y U V : List Int} {al cur : Value} {aft : Int} {mode : Int} (R : World → Option Addr → Nat → Nat → Prop) (hb : BrushAt w b cb mb db x 0) (hc : CanAt w cb yb ub vb cy cu cv wide high Y U V al cur aft) (hw : wide ≤ 60)
    (hE : ∀ wx p g cp pl, (pl = U ∨ pl = V) → PlaneAt wx p g cp (8 * wide) 8 pl → Only [] w wx → EdgesGive wx b p R) {mc : Array Value} (hmc : w.heap[mb]? = some (.cells mc 48 (0, 0))) (hmw : w.cell? ⟨mb, 19, none⟩ = some (.int .i64 mode))
    (hW : ∀ wx ao n c, R wx ao n c → Calls Tryz.prog 83 #[.int .i64 mode, .slice ao n c, .slice none 0 0, .int .i64 (-1)] wx fun e w' => e = .returned (.tuple #[.slice none 0 0, .int .i64 1101]) ∧ Only [] wx w') :
    Calls Tryz.prog 53 #[.pointer (some ⟨b, 0, none⟩)] w fun e w' => e = .returned (.bool false) ∧ Only [] w w' := by
  have s0 : w.cell? ⟨b, 0, none⟩ = some (.pointer (some ⟨cb, 0, none⟩)) := by rw [cells_of hb]; rfl
  have hpl := recon_planes cb 2 (16 * wide) _ _ _ w (by rw [cells_of hc.st]; rfl) (by rw [cells_of hc.st]; rfl) (by rw [cells_of hc.st]; rfl) (by rw [cells_of hc.st]; rfl) (by omega) ⟨_, _, _, rfl⟩ ⟨_, _, _, rfl⟩ ⟨_, _, _, rfl⟩
  have hW2 : (((16 * wide : Nat) : Int)) / 2 = ((8 * wide : Nat) : Int) := by omega
  obtain ⟨Zp, hZp⟩ : ∃ Zp, Zp = planesV ((16 * wide : Nat) : Int) (.slice (some ⟨yb, 0, none⟩) Y.length cy) (.slice (some ⟨ub, 0, none⟩) U.length cu) (.slice (some ⟨vb, 0, none⟩) V.length cv) := ⟨_, rfl⟩
  have hz3 : Zp[3]? = some (.slice (some ⟨ub, 0, none⟩) U.length cu) := by rw [hZp]; rfl
  have hz4 : Zp[4]? = some (.int .i64 ((8 * wide : Nat) : Int)) := by rw [hZp, ← hW2]; rfl
  have hz5 : Zp[5]? = some (.int .i64 8) := by rw [hZp]; rfl
  have hzs : Zp.size = 9 := by rw [hZp]; rfl
  have hz1 : Zp.all (·.oneCell') = true := by rw [hZp]; exact planesV_one _ _ _ _ _ _ _ _ _ _
  rw [← hZp] at hpl
  have hi9 : (Tryz.prog.info? 118).map (·.size) = some 9 := by kernel_rfl
  obtain ⟨pw, hpw⟩ : ∃ n, n = 8 * wide := ⟨_, rfl⟩
  rw [← hpw] at hz4 hE
  obtain ⟨ulen, hul⟩ : ∃ n, n = U.length := ⟨_, rfl⟩
  rw [← hul] at hz3
  obtain ⟨urest, hub⟩ := hc.us
  obtain ⟨vrest, hvb⟩ := hc.vs
  have hcub : ub ≠ vb := hc.uv
  have bu : b ≠ ub := block_ne hb hub (by decide)
  have bv : b ≠ vb := block_ne hb hvb (by decide)
  have mu : mb ≠ ub := block_ne hmc hub (by decide)
  have mv : mb ≠ vb := block_ne hmc hvb (by decide)
  have ubl := lt_of_block hub
  have vbl := lt_of_block hvb
  have hcb := lt_of_block hc.st
  have hsu : SmpAt w ub U := ⟨hc.us, hc.ou⟩
  have HP := Lib.hid hpl
  have HE := Lib.hid hE
  have HW := Lib.hid hW
  have Hb := Lib.hid hb
  have Hul := Lib.hid hul
  have HSU := Lib.hid hsu
  have Hmw := Lib.hid hmw
  have Z3 := Lib.hid hz3
  have Z4 := Lib.hid hz4
  have Z5 := Lib.hid hz5
  have Hzs := Lib.hid hzs
  have Hz1 := Lib.hid hz1
  clear hb hc hpl hE hW hZp hul hsu hmw hz3 hz4 hz5 hzs hz1 hub hvb hmc hpw hW2
  go_enter Tryz.func53, Tryz.ntmps53
  go_wp2_with fail
  refine HP.out.mono ?_
  rintro e w1 ⟨rfl, g1⟩
  have O1 := Lib.hid g1
  clear g1 s0 HP
  go_wp2_with (refine wpList_store_agg rfl _ _ _ rfl _ _ rfl rfl (heap_alloc_at w1 _) (by rw [Hzs.out]; exact hi9) (by rw [Hzs.out]; rfl) Hz1.out ?_)
  intro w2 hw2 ho2
  have hws := O1.out.size
  have O2 : Hid (Only [] w w2) := Lib.hid ((O1.out.alloc _).trans' ho2 (fun i hi => .inr (by simp only [List.mem_singleton] at hi; omega)))
  have W2 := Lib.hid hw2
  clear hw2 ho2 O1
  generalize w1.heap.size = psb at *
  go_wp2
  go_loopw [20] (fun q wr => q = .int .i64 0 ∧ Only [] w2 wr) (fun q _ => 2 - (intOf q).toNat)
  case atStart => exact ⟨rfl, Only.refl _ w2⟩
  case round =>
    obtain ⟨rfl, ho⟩ := hrel
    have c0 : wr.cell? ⟨psb, 3, none⟩ = some (.slice (some ⟨ub, 0, none⟩) ulen cu) := by rw [cells_of (ho.heap W2.out (by simp))]; exact Z3.out
    have c1 : wr.cell? ⟨psb, 4, none⟩ = some (.int .i64 ((pw : Nat) : Int)) := by rw [cells_of (ho.heap W2.out (by simp))]; exact Z4.out
    have c2 : wr.cell? ⟨psb, 5, none⟩ = some (.int .i64 8) := by rw [cells_of (ho.heap W2.out (by simp))]; exact Z5.out
    have OW : Hid (Only [] w wr) := Lib.hid (O2.out.trans ho)
    have HG : Hid (SmpAt wr ub U) := Lib.hid (HSU.out.only (O2.out.trans ho) (by simp))
    clear ho
    go_wp2_with fail
    have hP := HG.out.plane (cap := cu) (pw := pw) (side := 8)
    rw [← Hul.out] at hP
    refine (HE.out _ _ _ _ _ (.inl rfl) hP (OW.out.alloc _)).mono ?_
    rintro e w3 ⟨ao, n, c, rfl, hR, ho3⟩
    have OW3 : Hid (Only [] w w3) := Lib.hid ((OW.out.alloc _).trans ho3)
    have m3 : w3.cell? ⟨mb, 19, none⟩ = some (.int .i64 mode) := OW3.out.cell Hmw.out (by simp)
    have k3 : w3.cell? ⟨b, 1, none⟩ = some (.pointer (some ⟨mb, 0, none⟩)) := by rw [cells_of (OW3.out.heap Hb.out (by simp))]; rfl
    have HR := Lib.hid hR
    clear hR ho3 hP c0 c1 c2 OW HG
    generalize wr.heap.size = pb at *
    go_wp2_with fail
    refine (HW.out _ _ _ _ HR.out).mono ?_
    rintro e w4 ⟨rfl, ho4⟩
    have O4 := Lib.hid (OW3.out.trans ho4)
    clear ho4
    go_wp2
    go_ret
    exact ⟨rfl, O4.out⟩
end Go.Proofs.YtcmehedjdfopdaaGreat
