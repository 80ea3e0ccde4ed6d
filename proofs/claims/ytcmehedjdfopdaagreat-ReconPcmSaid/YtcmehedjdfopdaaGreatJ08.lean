/-
  The walk over package recon's brush.luma with a lowest coefficient.
-/
import Derived.Test.YtcmehedjdfopdaaGreatJ07
namespace Go.Proofs.YtcmehedjdfopdaaGreat
open Go.RowKit

theorem range_only {w w' : World} {S : List Nat} {b o : Nat} {cs : List Value} (h : w.rangeAt b o cs) (ho : Only S w w') (hb : b ∉ S) : w'.rangeAt b o cs := fun j v hj => ho.cell (h j v hj) hb
theorem range_set {w : World} {a : Addr} {u : Value} {b o : Nat} {cs : List Value} (h : w.rangeAt b o cs) (hb : b ≠ a.block) : (w.setCell a u).rangeAt b o cs := fun j v hj => cell_set (h j v hj) hb
theorem range_alloc {w : World} {x : Obj} {b o : Nat} {cs : List Value} (h : w.rangeAt b o cs) : (w.alloc x).rangeAt b o cs := fun j v hj => cell_alloc (h j v hj)
theorem range_drew {w : World} {b o : Nat} {cs : List Value} (h : w.rangeAt b o cs) : w.drew.rangeAt b o cs := h
theorem setCells_heap (b : Nat) (T : TypeId) (post : List Value) : ∀ (vs pre old : List Value) (w : World), w.heap[b]? = some (.cells (pre ++ old ++ post).toArray T (0, 0)) → old.length = vs.length → (w.setCells b pre.length vs).heap[b]? = some (.cells (pre ++ vs ++ post).toArray T (0, 0))
  | [], pre, old, w, h, hl => by
    have : old = [] := List.eq_nil_of_length_eq_zero hl
    subst this
    exact h
  | v :: r, pre, old, w, h, hl => by
    match old, hl with
    | u :: old, hl =>
      have h1 := heap_set_same (i := pre.length) v h
      have e1 : ((pre ++ u :: old ++ post).toArray.setIfInBounds pre.length v) = ((pre ++ [v]) ++ old ++ post).toArray := by
        apply Array.ext'
        simp
      rw [e1] at h1
      have h2 := setCells_heap b T post r (pre ++ [v]) old _ h1 (by simpa using hl)
      have e2 : (pre ++ [v]).length = pre.length + 1 := by simp
      rw [e2] at h2
      have e3 : (pre ++ [v]) ++ r ++ post = pre ++ v :: r ++ post := by simp
      rw [e3] at h2
      exact h2
theorem row_over {w : World} {b : Nat} {cs Z : Array Value} {T : TypeId} (h : w.heap[b]? = some (.cells cs T (0, 0))) (hl : Z.size = cs.size) : (w.setCells b 0 Z.toList).heap[b]? = some (.cells Z T (0, 0)) := by
  have := setCells_heap b T [] Z.toList [] cs.toList w (by simpa using h) (by simp [hl])
  simpa using this
theorem only_setCells (b : Nat) : ∀ (vs : List Value) (o : Nat) (w : World), Only [b] w (w.setCells b o vs)
  | [], _, w => Only.refl _ w
  | v :: r, o, w => ((Only.refl [b] w).setCell (p := ⟨b, o, none⟩) (.inl (by simp)) v).trans (only_setCells b r (o + 1) _)
theorem cell_cells {w : World} {p : Addr} {v : Value} {b o : Nat} {vs : List Value} (h : w.cell? p = some v) (hb : p.block ≠ b) : (w.setCells b o vs).cell? p = some v := (only_setCells b vs o w).cell h (by simpa using hb)
theorem range_cells {w : World} {b1 o1 : Nat} {cs : List Value} {b o : Nat} {vs : List Value} (h : w.rangeAt b1 o1 cs) (hb : b1 ≠ b) : (w.setCells b o vs).rangeAt b1 o1 cs := range_only h (only_setCells b vs o w) (by simpa using hb)
theorem there_of {w : World} {b n : Nat} {cs : Array Value} {T : TypeId} (h : w.heap[b]? = some (.cells cs T (0, 0))) (hn : n ≤ cs.size) : w.there b 0 n := fun j hj => by
  rw [Nat.zero_add]
  refine ⟨?_, free_of h j⟩
  rw [cells_of h]
  simp; omega
theorem only_alloc (w : World) (x : Obj) : Only [] w (w.alloc x) := (Only.refl [] w).alloc x
/-- Sixteen noughts, as cells. -/
def z16 : List Value := (List.replicate 16 0).map (Value.int .i64)
theorem unscan0 (w : World) : Calls Tryz.prog 87 #[.agg z16.toArray] w fun e w' => e = .returned (.agg (ints (List.replicate 16 0))) ∧ Only [] w w' := xf_unscan 0 w

set_option maxRecDepth 100000 in
set_option maxHeartbeats 1600000 in
theorem luma_dc {w : World} {b cb mb db x y p g cap pw dcb : Nat} {pl : List Int} {r qp : Int} (hb : BrushAt w b cb mb db x y) (hp : PlaneAt w p g cap pw 16 pl) (k : Nat) (hk : k < 16) (hd : w.heap[dcb]? = some (.cells (ints (List.replicate 16 r)) 36 (0, 0)))
    (hm : w.rangeAt mb (50 + k * 16) z16) (hq : w.cell? ⟨db, 2, none⟩ = some (.int .i64 qp)) (q0 : 0 ≤ qp) (q1 : qp ≤ 51) (r0 : -1048576 ≤ r) (r1 : r ≤ 1048576) (hx : x ≤ 60) (hy : y ≤ 60) (hl : pl.length ≤ 1000000)
    (hin : ∀ j, j < 16 → spot pw (x * 16 + 4 * blkX k) (y * 16 + 4 * blkY k) 4 j < pl.length) :
    Calls Tryz.prog 81 #[.pointer (some ⟨b, 0, none⟩), .pointer (some ⟨p, 0, none⟩), .int .i64 k, .pointer (some ⟨dcb, 0, none⟩)] w fun e w' => e = .returned (.tuple #[]) ∧ PlaneAt w' p g cap pw 16 (addTo pw (x * 16 + 4 * blkX k) (y * 16 + 4 * blkY k) (List.replicate 16 ((r + 32) / 64)) pl 16) ∧ Only [g] w w' := by
  have s0 : w.cell? ⟨b, 1, none⟩ = some (.pointer (some ⟨mb, 0, none⟩)) := by rw [cells_of hb]; rfl
  have s1 : w.cell? ⟨b, 2, none⟩ = some (.pointer (some ⟨db, 0, none⟩)) := by rw [cells_of hb]; rfl
  obtain ⟨bx, hbx⟩ : ∃ bx, bx = blkX k := ⟨_, rfl⟩
  obtain ⟨by', hby⟩ : ∃ q, q = blkY k := ⟨_, rfl⟩
  have hblk := fun w => syn_block k w hk
  have hlt := blk_lt k hk
  rw [← hbx, ← hby] at hblk hlt
  rw [← hbx, ← hby] at hin ⊢
  obtain ⟨XX, hXX⟩ : ∃ q : Nat, q = x * 16 + 4 * bx := ⟨_, rfl⟩
  obtain ⟨YY, hYY⟩ : ∃ q : Nat, q = y * 16 + 4 * by' := ⟨_, rfl⟩
  have q1x : IntKind.i64.wrap ((x : Int) * 16) = (x : Int) * 16 := i64w _ (by omega) (by omega)
  have q2x : IntKind.i64.wrap (4 * (bx : Int)) = 4 * (bx : Int) := i64w _ (by omega) (by omega)
  have q3x : IntKind.i64.wrap ((x : Int) * 16 + 4 * (bx : Int)) = (XX : Int) := by rw [show (x : Int) * 16 + 4 * (bx : Int) = (XX : Int) by omega]; exact i64n _ (by omega)
  have q1y : IntKind.i64.wrap ((y : Int) * 16) = (y : Int) * 16 := i64w _ (by omega) (by omega)
  have q2y : IntKind.i64.wrap (4 * (by' : Int)) = 4 * (by' : Int) := i64w _ (by omega) (by omega)
  have q3y : IntKind.i64.wrap ((y : Int) * 16 + 4 * (by' : Int)) = (YY : Int) := by rw [show (y : Int) * 16 + 4 * (by' : Int) = (YY : Int) by omega]; exact i64n _ (by omega)
  rw [← hXX, ← hYY] at hin ⊢
  have hXX2 : XX ≤ 1000 := by omega
  have hYY2 : YY ≤ 1000 := by omega
  obtain ⟨rest, hgh⟩ := hp.sm
  have hgb := lt_of_block hgh
  have hbg : b ≠ g := block_ne hb hgh (by decide)
  clear hXX hYY hgh
  obtain ⟨Zs, hZs⟩ : ∃ Zs, Zs = z16 := ⟨_, rfl⟩
  have hun := unscan0
  rw [← hZs] at hm hun
  obtain ⟨Z, hZ⟩ : ∃ Z, Z = ints (List.replicate 16 0) := ⟨_, rfl⟩
  have hde := fun w => qu_dequant0 qp w q0 q1
  rw [← hZ] at hun hde
  have hzl : (Tryz.prog.info? 36).map (·.size) = some Zs.length := by rw [hZs]; kernel_rfl
  have hua := Tryz.underlying36
  have hz1 : ∀ v ∈ Z.toList, v.oneCell' = true := by rw [hZ]; exact fun v hv => ints_oneCell' (List.replicate 16 0) v (by simpa only [ints] using hv)
  have hzs : Z.toList.length = 16 := by rw [hZ]; rfl
  have hz2 : (Tryz.prog.info? 36).map (·.size) = some Z.toList.length := by rw [hzs]; kernel_rfl
  have hzs1 : Z.size = 16 := by rw [hZ]; rfl
  have Hzs1 := Lib.hid hzs1
  have Hzs := Lib.hid hzs
  clear hzs hzs1
  have HB := Lib.hid hblk
  have Hb := Lib.hid hb
  have Hp := Lib.hid hp
  have Hd := Lib.hid hd
  have Hin := Lib.hid hin
  have Hun := Lib.hid hun
  have Hde := Lib.hid hde
  have HZ := Lib.hid hZ
  have k16 : (k : Int) < 24 := by omega
  have hb1 := lt_of_block hb
  have hb2 := World.block_lt_of_cell? w _ hq
  have hb3 := World.block_lt_of_cell? w _ (hm 0 (.int .i64 0) (by rw [hZs]; rfl))
  simp only at hb2 hb3
  clear hblk hb hp hd hin hbx hby hun hde hZ hZs
  go_enter Tryz.func81, Tryz.ntmps81
  go_wp2_with fail
  refine (HB.out _).mono ?_
  rintro e w' ⟨rfl, rfl⟩
  go_wp2_with fail
  go_region_held3 (fun w' => w'.cell? ⟨b, 1, none⟩ = some (.pointer (some ⟨mb, 0, none⟩)) ∧ w'.cell? ⟨b, 2, none⟩ = some (.pointer (some ⟨db, 0, none⟩)) ∧ w'.cell? ⟨db, 2, none⟩ = some (.int .i64 qp) ∧ w'.rangeAt mb (50 + k * 16) Zs) ((refine ⟨?_, ?_, ?_, ?_⟩ <;> (repeat (first | with_reducible assumption | (with_reducible refine cell_set ?_ (by simp; omega)) | with_reducible refine cell_alloc ?_ | with_reducible refine cell_drew ?_ | (with_reducible refine range_set ?_ (by simp; omega)) | with_reducible refine range_alloc ?_ | with_reducible refine range_drew ?_ | (with_reducible refine cell_cells ?_ (by simp only [ne_eq]; omega)) | (with_reducible refine range_cells ?_ (by omega))))))
    ((first
      | (with_reducible refine (Hun.out _).mono ?_
         rintro rr w1 ⟨rfl, g1⟩
         have O1 : Hid (Only [] w w1) := Lib.hid (by with_reducible first | exact (Only.refl [] w).drew.trans g1 | exact (only_alloc_drew w _).trans g1)
         have hsz1 := O1.out.size
         have a0 := O1.out.cell s0 (by simp)
         have a1 := O1.out.cell s1 (by simp)
         have a2 := O1.out.cell hq (by simp)
         have a3 := range_only hm O1.out (by simp)
         try (have A1 : Hid (w1.heap[w.heap.size]? = some (.cells #[.int .i64 0, .int .i64 0, .int .i64 0, .int .i64 0, .int .i64 0, .int .i64 0, .int .i64 0, .int .i64 0, .int .i64 0, .int .i64 0, .int .i64 0, .int .i64 0, .int .i64 0, .int .i64 0, .int .i64 0, .int .i64 0] 36 (0, 0))) := Lib.hid (by with_reducible exact g1.heap (heap_alloc_drew w _) (by simp))
              have th1 : w1.there w.heap.size 0 Z.toList.length := there_of A1.out (by rw [Hzs.out]; decide))
         clear g1)
      | (with_reducible refine (Hde.out _).mono ?_
         rintro rr w2 ⟨rfl, g2⟩
         have O12 : Hid (Only [] w1 w2) := Lib.hid (by with_reducible first | exact g2 | exact (only_alloc w1 _).trans g2 | exact (Only.refl [] w1).drew.trans g2 | exact (only_alloc_drew w1 _).trans g2)
         have O2 := Lib.hid (O1.out.trans O12.out)
         have hsz2 := O12.out.size
         have b0 := O2.out.cell s0 (by simp)
         have b1 := O2.out.cell s1 (by simp)
         have b2 := O2.out.cell hq (by simp)
         have b3 := range_only hm O2.out (by simp)
         have th3 : (w2.alloc (.cells #[.int .i64 0, .int .i64 0, .int .i64 0, .int .i64 0, .int .i64 0, .int .i64 0, .int .i64 0, .int .i64 0, .int .i64 0, .int .i64 0, .int .i64 0, .int .i64 0, .int .i64 0, .int .i64 0, .int .i64 0, .int .i64 0] 36)).there w2.heap.size 0 Z.toList.length := there_of (heap_alloc_at w2 _) (by rw [Hzs.out]; decide)
         try (have A2 : Hid (w2.heap[w1.heap.size]? = some (.cells #[.int .i64 0, .int .i64 0, .int .i64 0, .int .i64 0, .int .i64 0, .int .i64 0, .int .i64 0, .int .i64 0, .int .i64 0, .int .i64 0, .int .i64 0, .int .i64 0, .int .i64 0, .int .i64 0, .int .i64 0, .int .i64 0] 36 (0, 0))) := Lib.hid (by with_reducible exact g2.heap (heap_alloc_drew w1 _) (by simp))
              have th2 : w2.there w1.heap.size 0 Z.toList.length := there_of A2.out (by rw [Hzs.out]; decide))
         try (have A2 : Hid (w2.heap[w1.heap.size]? = some (.cells #[.int .i64 0, .int .i64 0, .int .i64 0, .int .i64 0, .int .i64 0, .int .i64 0, .int .i64 0, .int .i64 0, .int .i64 0, .int .i64 0, .int .i64 0, .int .i64 0, .int .i64 0, .int .i64 0, .int .i64 0, .int .i64 0] 36 (0, 0))) := Lib.hid (by with_reducible exact g2.heap (heap_alloc_at w1 _) (by simp))
              have th2 : w2.there w1.heap.size 0 Z.toList.length := there_of A2.out (by rw [Hzs.out]; decide))
         try (have A2 := Lib.hid (O12.out.heap A1.out (by simp))
              have th2 : w2.there w.heap.size 0 Z.toList.length := there_of A2.out (by rw [Hzs.out]; decide))
         clear g2)))
  all_goals
    have hwz := w.heap.size
    first
      | (have C7 : Hid ((w2.setCells w.heap.size 0 Z.toList).heap[w.heap.size]? = some (.cells Z 36 (0, 0))) := Lib.hid (row_over A2.out (by rw [Hzs1.out]; rfl))
         have P7 : Hid (Only [] w (w2.setCells w.heap.size 0 Z.toList)) := Lib.hid (O2.out.trans' (only_setCells w.heap.size Z.toList 0 _) (fun i hi => .inr (by simp only [List.mem_singleton] at hi; omega)))
         have hnbx : w.heap.size ≤ w.heap.size := by omega
         generalize w2.setCells w.heap.size 0 Z.toList = w7 at *
         generalize hgen : w.heap.size = nb at *)
      | (have C7 : Hid ((w2.setCells w1.heap.size 0 Z.toList).heap[w1.heap.size]? = some (.cells Z 36 (0, 0))) := Lib.hid (row_over A2.out (by rw [Hzs1.out]; rfl))
         have P7 : Hid (Only [] w (w2.setCells w1.heap.size 0 Z.toList)) := Lib.hid (O2.out.trans' (only_setCells w1.heap.size Z.toList 0 _) (fun i hi => .inr (by simp only [List.mem_singleton] at hi; omega)))
         have hnbx : w.heap.size ≤ w1.heap.size := by omega
         generalize w2.setCells w1.heap.size 0 Z.toList = w7 at *
         generalize hgen : w1.heap.size = nb at *)
      | (have C7 : Hid (((w2.alloc (.cells #[.int .i64 0, .int .i64 0, .int .i64 0, .int .i64 0, .int .i64 0, .int .i64 0, .int .i64 0, .int .i64 0, .int .i64 0, .int .i64 0, .int .i64 0, .int .i64 0, .int .i64 0, .int .i64 0, .int .i64 0, .int .i64 0] 36)).setCells w2.heap.size 0 Z.toList).heap[w2.heap.size]? = some (.cells Z 36 (0, 0))) := Lib.hid (row_over (heap_alloc_at w2 _) (by rw [Hzs1.out]; rfl))
         have P7 : Hid (Only [] w ((w2.alloc (.cells #[.int .i64 0, .int .i64 0, .int .i64 0, .int .i64 0, .int .i64 0, .int .i64 0, .int .i64 0, .int .i64 0, .int .i64 0, .int .i64 0, .int .i64 0, .int .i64 0, .int .i64 0, .int .i64 0, .int .i64 0, .int .i64 0] 36)).setCells w2.heap.size 0 Z.toList)) := Lib.hid ((O2.out.alloc (.cells #[.int .i64 0, .int .i64 0, .int .i64 0, .int .i64 0, .int .i64 0, .int .i64 0, .int .i64 0, .int .i64 0, .int .i64 0, .int .i64 0, .int .i64 0, .int .i64 0, .int .i64 0, .int .i64 0, .int .i64 0, .int .i64 0] 36)).trans' (only_setCells w2.heap.size Z.toList 0 _) (fun i hi => .inr (by simp only [List.mem_singleton] at hi; omega)))
         have hnbx : w.heap.size ≤ w2.heap.size := by omega
         generalize (w2.alloc (.cells #[.int .i64 0, .int .i64 0, .int .i64 0, .int .i64 0, .int .i64 0, .int .i64 0, .int .i64 0, .int .i64 0, .int .i64 0, .int .i64 0, .int .i64 0, .int .i64 0, .int .i64 0, .int .i64 0, .int .i64 0, .int .i64 0] 36)).setCells w2.heap.size 0 Z.toList = w7 at *
         generalize hgen : w2.heap.size = nb at *)
    have hnb : w.heap.size ≤ nb := by omega
    clear s0 s1 hq hm a0 a1 a2 a3 b0 b1 b2 b3 th3
    try clear th1
    try clear th2
    try clear A1 A2
    have c7 : w7.cell? ⟨nb, 0, none⟩ = some (.int .i64 0) := by rw [cells_of C7.out, HZ.out]; rfl
    have z7 := free_of C7.out 0
    have hD := P7.out.heap Hd.out (by simp)
    have d7 : w7.cell? ⟨dcb, 4 * by' + bx, none⟩ = some (.int .i64 r) := by rw [cells_of hD, ints_at _ _ (by rw [List.length_replicate]; omega), getD_rep 16 r _ (by omega)]
    have hnd : nb ≠ dcb := by have := lt_of_block Hd.out; omega
    have B8 : Hid ((w7.setCell ⟨nb, 0, none⟩ (.int .i64 r)).heap[nb]? = some (.cells (ints (dcL r)) 36 (0, 0))) := Lib.hid (by rw [heap_set_same _ C7.out, HZ.out]; rfl)
    have O8 := Lib.hid (P7.out.setCell (p := ⟨nb, 0, none⟩) (.inr hnb) (.int .i64 r))
    have hix : (4 : Int) * by' + bx < 16 := by omega
    clear hD O1 O2 O12 hsz1 hsz2 C7 P7 Hun Hde
    have e3 : (w7.setCell ⟨nb, 0, none⟩ (.int .i64 r)).cell? ⟨b, 3, none⟩ = some (.int .i64 x) := by rw [cells_of (O8.out.heap Hb.out (by simp))]; rfl
    have e4 : (w7.setCell ⟨nb, 0, none⟩ (.int .i64 r)).cell? ⟨b, 4, none⟩ = some (.int .i64 y) := by rw [cells_of (O8.out.heap Hb.out (by simp))]; rfl
    obtain ⟨Ls, hLs⟩ : ∃ Ls, Ls = (dcL r).map (Value.int .i64) := ⟨_, rfl⟩
    have e5 : (w7.setCell ⟨nb, 0, none⟩ (.int .i64 r)).rangeAt nb 0 Ls := by rw [hLs]; exact fun j v hj => by rw [Nat.zero_add, cells_of B8.out]; simpa [ints] using hj
    have hll : (Tryz.prog.info? 36).map (·.size) = some Ls.length := by rw [hLs, List.length_map, dcL_length]; kernel_rfl
    have hadd := fun (wx : World) (hw : Only [] w wx) => recon_add (Hp.out.only hw (by simp) (by simp)) XX YY r r0 r1 hXX2 hYY2 hl Hin.out
    rw [show ints (dcL r) = Ls.toArray by rw [hLs]; rfl] at hadd
    have HAdd := Lib.hid hadd
    have O9 := O8
    clear hLs hadd
    go_wp2_with fail
    clear c7 z7 d7
    generalize w7.setCell ⟨nb, 0, none⟩ (.int .i64 r) = w8 at *
    go_region_held3 (fun w' => w'.cell? ⟨b, 3, none⟩ = some (.int .i64 x) ∧ w'.cell? ⟨b, 4, none⟩ = some (.int .i64 y) ∧ w'.rangeAt nb 0 Ls) ((refine ⟨?_, ?_, ?_⟩ <;> (repeat (first | with_reducible assumption | with_reducible refine cell_drew ?_ | with_reducible refine range_drew ?_))))
      ((with_reducible refine (HAdd.out _ (by with_reducible exact O9.out.drew)).mono ?_
        rintro rr w9 ⟨rfl, g8, g9⟩
        have P9 := Lib.hid g8
        have Q9 : Hid (Only [g] w w9) := Lib.hid ((O9.out.drew.mono (by simp)).trans g9)
        have f3 := g9.cell (show w8.drew.cell? _ = _ from e3) (by simpa using hbg)
        have f4 := g9.cell (show w8.drew.cell? _ = _ from e4) (by simpa using hbg)
        have f5 := range_only (show w8.drew.rangeAt _ _ _ from e5) g9 (by simp only [List.mem_singleton]; omega)
        clear g8 g9))
    go_wp2
    go_end0
    exact ⟨rfl, P9.out, Q9.out⟩
end Go.Proofs.YtcmehedjdfopdaaGreat
