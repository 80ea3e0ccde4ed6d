/-
  The walks over package xform's Hadamard, Inverse, for blocks of the lowest coefficient alone. The walks over package xform's scan.get, Unscan, for blocks of the lowest coefficient alone. The walks over zoetropelaw0's plain helpers: Num, SameInts, SpoilInts.
-/
import Derived.Test.YtcmehedjdfopdaaGreatJ04
import Derived.Test.YtcmehedjdfopdaaGreatJ02
import Derived.Test.YtcmehedjdfopdaaGreatRows
import Derived.Test.YtcmehedjdfopdaaGreatJ01
import Derived.Deep.QuietTactic
import Derived.BigQuiet
namespace Go.Proofs.YtcmehedjdfopdaaGreat
open Go.RowKit

set_option maxRecDepth 100000 in
set_option maxHeartbeats 1600000 in
theorem xf_had (d : Int) (w : World) (h0 : -1048576 ≤ d) (h1 : d ≤ 1048576) :
    Calls Tryz.prog 123 #[.agg (ints (dcL d))] w fun e w' => e = .returned (.agg (ints (List.replicate 16 d))) ∧ Only [] w w' := by
  have hsz : (ints (dcL d)).size = 16 := by rw [ints_size, dcL_length]
  have hsr : (ints (List.replicate 16 d)).size = 16 := by rw [ints_size, List.length_replicate]
  obtain ⟨R, hR⟩ : ∃ r, r = ints (List.replicate 16 d) := ⟨_, rfl⟩
  have ho : R.all (·.oneCell') = true := by rw [hR]; exact ints_one _
  have Hrows := Lib.hid (fun (w : World) => xf_rows 161 d w (fun c w => run_enter Tryz.func161 (by kernel_rfl) (by kernel_rfl) c w) (fun x w hx => had_one x w (by omega) (by omega)))
  rw [← hR] at hsr Hrows
  have HR := Lib.hid hR
  have Hsz := Lib.hid hsz
  have Hsr := Lib.hid hsr
  have H1 := Lib.hid ho
  clear hsz hsr hR ho
  go_enter Tryz.func123, Tryz.ntmps123
  have B1 := Lib.hid (heap_alloc2_old w (.cells (ints (dcL d)) 36) (.cells #[.int .i64 0, .int .i64 0, .int .i64 0, .int .i64 0, .int .i64 0, .int .i64 0, .int .i64 0, .int .i64 0, .int .i64 0, .int .i64 0, .int .i64 0, .int .i64 0, .int .i64 0, .int .i64 0, .int .i64 0, .int .i64 0] 36))
  have B2 := Lib.hid (heap_alloc2_new w (.cells (ints (dcL d)) 36) (.cells #[.int .i64 0, .int .i64 0, .int .i64 0, .int .i64 0, .int .i64 0, .int .i64 0, .int .i64 0, .int .i64 0, .int .i64 0, .int .i64 0, .int .i64 0, .int .i64 0, .int .i64 0, .int .i64 0, .int .i64 0, .int .i64 0] 36))
  have O1 : Hid (Only [] w ((w.alloc (.cells (ints (dcL d)) 36)).alloc (.cells #[.int .i64 0, .int .i64 0, .int .i64 0, .int .i64 0, .int .i64 0, .int .i64 0, .int .i64 0, .int .i64 0, .int .i64 0, .int .i64 0, .int .i64 0, .int .i64 0, .int .i64 0, .int .i64 0, .int .i64 0, .int .i64 0] 36))) := Lib.hid (((Only.refl [] w).alloc _).alloc _)
  go_wp2_with (with_reducible refine wpList_load_row rfl _ _ rfl _ rfl _ _ _ _ B1.out Tryz.underlying36 rfl (by rw [Hsz.out]; kernel_rfl) ?_)
  refine (xf_clipped d _ h0 h1).mono ?_
  rintro r w1 ⟨rfl, g1⟩
  have B3 := Lib.hid (g1.heap B2.out (by simp))
  have O2 := Lib.hid (O1.out.trans g1)
  clear g1
  go_wp2_with fail
  refine (Hrows.out w1).mono ?_
  rintro r w2 ⟨rfl, g1⟩
  have B4 := Lib.hid (g1.heap B3.out (by simp))
  have O3 := Lib.hid (O2.out.trans g1)
  clear g1
  go_wp2_with (refine wpList_store_agg rfl _ _ _ rfl _ _ rfl rfl B4.out (by rw [Hsr.out]; kernel_rfl) (by rw [Hsr.out]; rfl) H1.out ?_)
  intro w3 hw3 ho3
  have W3 := Lib.hid hw3
  have O4 := Lib.hid (O3.out.trans' ho3 (by simp))
  clear hw3 ho3
  go_wp2
  exact ret_cell rfl _ rfl W3.out Tryz.underlying36 rfl (by rw [Hsr.out]; kernel_rfl) rfl ⟨by rw [HR.out], O4.out⟩

/-- The first k shifted. -/
def shTo (d e : Int) (k : Nat) : List Int := List.replicate k e ++ List.replicate (16 - k) d
theorem shTo_at (d e : Int) (k : Nat) (hk : k < 16) : (shTo d e k).getD k 0 = d := by
  unfold shTo
  simp only [List.getD]
  rw [List.getElem?_append_right (by simp), List.length_replicate, Nat.sub_self, List.getElem?_replicate, if_pos (by omega)]
  rfl
theorem shTo_set (d e : Int) (k : Nat) (hk : k < 16) : (shTo d e k).set k e = shTo d e (k + 1) := by
  unfold shTo
  rw [List.set_append_right _ _ (by simp), List.length_replicate, Nat.sub_self, show 16 - k = (16 - (k + 1)) + 1 by omega, List.replicate_succ, List.set_cons_zero, List.replicate_succ']
  simp
theorem shTo_length (d e : Int) (k : Nat) (hk : k ≤ 16) : (shTo d e k).length = 16 := by simp [shTo]; omega

set_option maxRecDepth 100000 in
set_option maxHeartbeats 1600000 in
theorem xf_inv (d : Int) (w : World) (h0 : -1048576 ≤ d) (h1 : d ≤ 1048576) :
    Calls Tryz.prog 152 #[.agg (ints (dcL d))] w fun e w' => e = .returned (.agg (ints (List.replicate 16 ((d + 32) / 64)))) ∧ Only [] w w' := by
  have hsz : (ints (dcL d)).size = 16 := by rw [ints_size, dcL_length]
  have hsr : (ints (List.replicate 16 d)).size = 16 := by rw [ints_size, List.length_replicate]
  obtain ⟨R, hR⟩ : ∃ r, r = ints (List.replicate 16 d) := ⟨_, rfl⟩
  have ho : R.all (·.oneCell') = true := by rw [hR]; exact ints_one _
  have Hrows := Lib.hid (fun (w : World) => xf_rows 179 d w (fun c w => run_enter Tryz.func179 (by kernel_rfl) (by kernel_rfl) c w) (fun x w hx => inv_one x w (by omega) (by omega)))
  rw [← hR] at hsr Hrows
  have HR := Lib.hid hR
  have Hsz := Lib.hid hsz
  have Hsr := Lib.hid hsr
  have H1 := Lib.hid ho
  clear hsz hsr hR ho
  go_enter Tryz.func152, Tryz.ntmps152
  have B1 := Lib.hid (heap_alloc2_old w (.cells (ints (dcL d)) 36) (.cells #[.int .i64 0, .int .i64 0, .int .i64 0, .int .i64 0, .int .i64 0, .int .i64 0, .int .i64 0, .int .i64 0, .int .i64 0, .int .i64 0, .int .i64 0, .int .i64 0, .int .i64 0, .int .i64 0, .int .i64 0, .int .i64 0] 36))
  have B2 := Lib.hid (heap_alloc2_new w (.cells (ints (dcL d)) 36) (.cells #[.int .i64 0, .int .i64 0, .int .i64 0, .int .i64 0, .int .i64 0, .int .i64 0, .int .i64 0, .int .i64 0, .int .i64 0, .int .i64 0, .int .i64 0, .int .i64 0, .int .i64 0, .int .i64 0, .int .i64 0, .int .i64 0] 36))
  have O1 : Hid (Only [] w ((w.alloc (.cells (ints (dcL d)) 36)).alloc (.cells #[.int .i64 0, .int .i64 0, .int .i64 0, .int .i64 0, .int .i64 0, .int .i64 0, .int .i64 0, .int .i64 0, .int .i64 0, .int .i64 0, .int .i64 0, .int .i64 0, .int .i64 0, .int .i64 0, .int .i64 0, .int .i64 0] 36))) := Lib.hid (((Only.refl [] w).alloc _).alloc _)
  go_wp2_with (with_reducible refine wpList_load_row rfl _ _ rfl _ rfl _ _ _ _ B1.out Tryz.underlying36 rfl (by rw [Hsz.out]; kernel_rfl) ?_)
  refine (xf_clipped d _ h0 h1).mono ?_
  rintro r w1 ⟨rfl, g1⟩
  have B3 := Lib.hid (g1.heap B2.out (by simp))
  have O2 := Lib.hid (O1.out.trans g1)
  clear g1
  go_wp2_with fail
  refine (Hrows.out w1).mono ?_
  rintro r w2 ⟨rfl, g1⟩
  have B4 := Lib.hid (heap_alloc_lt (.cells #[.int .i64 0, .int .i64 0, .int .i64 0, .int .i64 0, .int .i64 0, .int .i64 0, .int .i64 0, .int .i64 0, .int .i64 0, .int .i64 0, .int .i64 0, .int .i64 0, .int .i64 0, .int .i64 0, .int .i64 0, .int .i64 0] 36) (g1.heap B3.out (by simp)))
  have C4 := Lib.hid (heap_alloc_at w2 (.cells #[.int .i64 0, .int .i64 0, .int .i64 0, .int .i64 0, .int .i64 0, .int .i64 0, .int .i64 0, .int .i64 0, .int .i64 0, .int .i64 0, .int .i64 0, .int .i64 0, .int .i64 0, .int .i64 0, .int .i64 0, .int .i64 0] 36))
  have hw2 : w.heap.size + 1 < w2.heap.size := lt_of_block (g1.heap B3.out (by simp))
  have O3 : Hid (Only [] w (w2.alloc (.cells #[.int .i64 0, .int .i64 0, .int .i64 0, .int .i64 0, .int .i64 0, .int .i64 0, .int .i64 0, .int .i64 0, .int .i64 0, .int .i64 0, .int .i64 0, .int .i64 0, .int .i64 0, .int .i64 0, .int .i64 0, .int .i64 0] 36))) := Lib.hid ((O2.out.trans g1).alloc _)
  clear g1
  go_wp2_with (refine wpList_store_agg rfl _ _ _ rfl _ _ rfl rfl C4.out (by rw [Hsr.out]; kernel_rfl) (by rw [Hsr.out]; rfl) H1.out ?_)
  intro w3 hw3 ho3
  have W3 := Lib.hid hw3
  have B5 := Lib.hid (ho3.heap B4.out (by simp; omega))
  have O4 := Lib.hid (O3.out.trans' ho3 (by simp; omega))
  clear hw3 ho3
  go_wp2
  go_loopw [8] (fun q wr => ∃ k : Nat, k ≤ 16 ∧ q = .int .i64 k ∧ wr.heap[w2.heap.size]? = some (.cells (ints (shTo d ((d + 32) / 64) k)) 36 (0, 0)) ∧ (∃ z : Array Value, z.size = 16 ∧ wr.heap[w.heap.size + 1]? = some (.cells z 36 (0, 0))) ∧ Only [] w wr) (fun q _ => 16 - (intOf q).toNat)
  case atStart => exact ⟨0, by omega, rfl, by rw [W3.out, HR.out]; rfl, ⟨_, rfl, B5.out⟩, O4.out⟩
  case round =>
    obtain ⟨k, hk, rfl, hb, ⟨z, hz, hr⟩, ho⟩ := hrel
    by_cases hlt : k < 16
    · have c1 := cells_of hb k
      rw [ints_at _ _ (by rw [shTo_length _ _ _ hk]; exact hlt), shTo_at _ _ _ hlt] at c1
      have z1 := free_of hb k
      have hs := heap_set_same (i := k) (.int .i64 ((d + 32) / 64)) hb
      rw [ints_setIf, shTo_set _ _ _ hlt] at hs
      have S1 := Lib.hid hs
      have S2 := Lib.hid (heap_set_other (b := w2.heap.size) (i := k) (.int .i64 ((d + 32) / 64)) hr (by omega))
      have S3 := Lib.hid (ho.setCell (p := ⟨w2.heap.size, k, none⟩) (.inr (by show w.heap.size ≤ w2.heap.size; omega)) (.int .i64 ((d + 32) / 64)))
      clear hs hb hr ho
      go_wp2
      go_roundw
      case rel => exact ⟨k + 1, by omega, by go_num, S1.out, ⟨z, hz, S2.out⟩, S3.out⟩
      case measure => simp [intOf] <;> omega
    · obtain rfl : k = 16 := by omega
      rw [show shTo d ((d + 32) / 64) 16 = List.replicate 16 ((d + 32) / 64) by simp [shTo]] at hb
      have hsq : (ints (List.replicate 16 ((d + 32) / 64))).size = 16 := by rw [ints_size, List.length_replicate]
      obtain ⟨Q, hQ⟩ : ∃ r, r = ints (List.replicate 16 ((d + 32) / 64)) := ⟨_, rfl⟩
      have h9 : Q.all (·.oneCell') = true := by rw [hQ]; exact ints_one _
      rw [← hQ] at hb hsq
      have S1 := Lib.hid hb
      have S2 := Lib.hid hr
      have S4 := Lib.hid ho
      have Hsq := Lib.hid hsq
      have Hz := Lib.hid hz
      have H9 := Lib.hid h9
      have HQ := Lib.hid hQ
      clear hb hr ho hsq hz h9 hQ
      go_wp2_with (first
        | (with_reducible refine wpList_load_row rfl _ _ rfl _ rfl _ _ _ _ S1.out Tryz.underlying36 rfl (by rw [Hsq.out]; kernel_rfl) ?_)
        | (refine wpList_store_agg rfl _ _ _ rfl _ _ rfl rfl S2.out (by rw [Hsq.out]; kernel_rfl) (by rw [Hz.out, Hsq.out]) H9.out ?_))
      intro w8 hw8 ho8
      have W8 := Lib.hid hw8
      have O8 := Lib.hid (S4.out.trans' ho8 (by simp))
      clear hw8 ho8
      go_wp2
      exact ret_cell rfl _ rfl W8.out Tryz.underlying36 rfl (by rw [Hsq.out]; kernel_rfl) rfl ⟨by rw [HQ.out], O8.out⟩
end Go.Proofs.YtcmehedjdfopdaaGreat

namespace Go.Proofs.YtcmehedjdfopdaaGreat
open Go.RowKit

set_option maxRecDepth 100000 in
theorem scan_fill (bx tb : Nat) (w : World) (hx : w.heap[bx]? = some (.cells #[.pointer (some ⟨tb, 0, none⟩)] 231 (0, 0)))
    (hb : w.heap[tb]? = some (.cells (onceCells (.int .u32 0) (.int .i32 1) ((List.replicate 16 0).map (Value.int .i64))) 233 (0, 0))) :
    Calls Tryz.prog 162 #[.pointer (some ⟨bx, 0, none⟩)] w fun e w'' => e = .returned (.tuple #[]) ∧ w''.heap[tb]? = some (.cells (onceCells (.int .u32 0) (.int .i32 1) (sc16.map (Value.int .i64))) 233 (0, 0)) ∧ Only [tb] w w'' := by
  have c0 : w.cell? ⟨bx, 0, none⟩ = some (.pointer (some ⟨tb, 0, none⟩)) := by rw [cells_of hx]; rfl
  have Hb := Lib.hid hb
  clear hb hx
  go_enter Tryz.func162, Tryz.ntmps162
  go_wp2_with (refine wpList_store_part rfl _ _ _ rfl tb 3 (ints sc16) rfl rfl Hb.out (by kernel_rfl) (by simp [onceCells, ints, sc16]) (ints_one _) ?_)
  intro w2 hw2 ho2
  have W2 := Lib.hid (show w2.heap[tb]? = some (.cells (onceCells (.int .u32 0) (.int .i32 1) (sc16.map (Value.int .i64))) 233 (0, 0)) by rw [hw2]; rfl)
  have O2 := Lib.hid ho2
  clear hw2 ho2
  go_wp2
  go_end0
  exact ⟨rfl, W2.out, O2.out⟩

theorem range_once {w : World} {tb : Nat} {a b : Value} {rest : List Value} {T : TypeId} (h : w.heap[tb]? = some (.cells (onceCells a b rest) T (0, 0))) (o n : Nat) : w.rangeAt tb (3 + o) ((rest.drop o).take n) := by
  intro j v hj
  rw [cells_of h, show 3 + o + j = 3 + (o + j) by omega, onceCells_at]
  rw [List.getElem?_take] at hj
  split at hj
  · rwa [List.getElem?_drop] at hj
  · cases hj

set_option maxRecDepth 100000 in
set_option maxHeartbeats 1600000 in
theorem scan_get (tb : Nat) (w : World) (hb : w.heap[tb]? = some (.cells (onceCells (.int .u32 0) (.int .i32 0) ((List.replicate 16 0).map (Value.int .i64))) 233 (0, 0))) :
    Calls Tryz.prog 124 #[.pointer (some ⟨tb, 0, none⟩)] w fun e w' => e = .returned (.agg (ints sc16)) ∧ Only [tb] w w' := by
  have hlt := lt_of_block hb
  have hmf : ∀ (fn : Fn) (first cap : Array Value) (w : World), (Instr.makeFunc fn first cap).run Tryz.prog w = .ok (.func fn first cap) w := fun _ _ _ _ => rfl
  have hX := heap_alloc2_old w (.cells #[.pointer (some ⟨tb, 0, none⟩)] 231) (.cells #[.int .i64 0, .int .i64 0, .int .i64 0, .int .i64 0, .int .i64 0, .int .i64 0, .int .i64 0, .int .i64 0, .int .i64 0, .int .i64 0, .int .i64 0, .int .i64 0, .int .i64 0, .int .i64 0, .int .i64 0, .int .i64 0] 36)
  have hR := heap_alloc2_new w (.cells #[.pointer (some ⟨tb, 0, none⟩)] 231) (.cells #[.int .i64 0, .int .i64 0, .int .i64 0, .int .i64 0, .int .i64 0, .int .i64 0, .int .i64 0, .int .i64 0, .int .i64 0, .int .i64 0, .int .i64 0, .int .i64 0, .int .i64 0, .int .i64 0, .int .i64 0, .int .i64 0] 36)
  have hT := heap_alloc_lt (.cells #[.int .i64 0, .int .i64 0, .int .i64 0, .int .i64 0, .int .i64 0, .int .i64 0, .int .i64 0, .int .i64 0, .int .i64 0, .int .i64 0, .int .i64 0, .int .i64 0, .int .i64 0, .int .i64 0, .int .i64 0, .int .i64 0] 36) (heap_alloc_lt (.cells #[.pointer (some ⟨tb, 0, none⟩)] 231) hb)
  have hO : Only [] w ((w.alloc (.cells #[.pointer (some ⟨tb, 0, none⟩)] 231)).alloc (.cells #[.int .i64 0, .int .i64 0, .int .i64 0, .int .i64 0, .int .i64 0, .int .i64 0, .int .i64 0, .int .i64 0, .int .i64 0, .int .i64 0, .int .i64 0, .int .i64 0, .int .i64 0, .int .i64 0, .int .i64 0, .int .i64 0] 36)) := ((Only.refl [] w).alloc _).alloc _
  have hdo := once_table 162 #[.pointer (some ⟨w.heap.size, 0, none⟩)] (fun w => run_enter Tryz.func162 (by kernel_rfl) (by kernel_rfl) _ w) _ tb 233 _ (sc16.map (Value.int .i64)) hT
    (fun w' h1 h2 => scan_fill w.heap.size tb w' (h2.heap hX (by simp; omega)) h1)
  have Hdo := Lib.hid hdo
  have HX := Lib.hid hX
  have HR := Lib.hid hR
  have HO := Lib.hid hO
  clear hdo hX hR hT hO hb
  go_enter Tryz.func124, Tryz.ntmps124
  go_wp2_with fail
  refine Hdo.out.mono ?_
  rintro e w1 ⟨rfl, h1, h2⟩
  have W1 := Lib.hid (range_once h1 0 16)
  have c1 : w1.cell? ⟨w.heap.size, 0, none⟩ = some (.pointer (some ⟨tb, 0, none⟩)) := by rw [cells_of (h2.heap HX.out (by simp; omega))]; rfl
  have R1 := Lib.hid (h2.heap HR.out (by simp; omega))
  have O1 := Lib.hid ((HO.out.mono (T := [tb]) (by simp)).trans h2)
  clear h1 h2
  go_wp2_with (first
    | (with_reducible refine wpList_load_mid rfl _ _ rfl tb 3 rfl _ _ W1.out Tryz.underlying36 rfl (by kernel_rfl) ?_)
    | (refine wpList_store_agg rfl _ _ _ rfl _ (ints sc16) rfl rfl R1.out (by kernel_rfl) (by rfl) (ints_one _) ?_))
  intro w2 hw2 ho2
  have W2 := Lib.hid hw2
  have O2 := Lib.hid (O1.out.trans' ho2 (by simp))
  clear hw2 ho2
  go_wp2
  exact ret_cell rfl _ rfl W2.out Tryz.underlying36 rfl (by kernel_rfl) rfl ⟨rfl, O2.out⟩

theorem four_new (w : World) (A B C D : Obj) : ((((w.alloc A).alloc B).alloc C).alloc D).heap[w.heap.size]? = some A ∧ ((((w.alloc A).alloc B).alloc C).alloc D).heap[w.heap.size + 1]? = some B ∧ ((((w.alloc A).alloc B).alloc C).alloc D).heap[w.heap.size + 1 + 1]? = some C ∧
    ((((w.alloc A).alloc B).alloc C).alloc D).heap[w.heap.size + 1 + 1 + 1]? = some D ∧ Only [] w ((((w.alloc A).alloc B).alloc C).alloc D) := by
  have h1 := heap_alloc_at w A
  have h2 := heap_alloc_at (w.alloc A) B
  have h3 := heap_alloc_at ((w.alloc A).alloc B) C
  have h4 := heap_alloc_at (((w.alloc A).alloc B).alloc C) D
  rw [World.size_alloc] at h2
  rw [World.size_alloc, World.size_alloc] at h3
  rw [World.size_alloc, World.size_alloc, World.size_alloc] at h4
  exact ⟨heap_alloc_lt _ (heap_alloc_lt _ (heap_alloc_lt _ h1)), heap_alloc_lt _ (heap_alloc_lt _ h2), heap_alloc_lt _ h3, h4, ((((Only.refl [] w).alloc _).alloc _).alloc _).alloc _⟩
/-- The output when the first k are laid. -/
def unTo (d : Int) (k : Nat) : List Int := if k = 0 then List.replicate 16 0 else dcL d
theorem sc16_at (k : Nat) (hk : k < 16) : ∃ p : Nat, sc16.getD k 0 = (p : Int) ∧ p < 16 ∧ ∀ d, (unTo d k).set p ((dcL d).getD k 0) = unTo d (k + 1) := by
  match k, hk with
  | 0, _ => exact ⟨0, rfl, by omega, fun _ => rfl⟩
  | 1, _ => exact ⟨1, rfl, by omega, fun _ => rfl⟩
  | 2, _ => exact ⟨4, rfl, by omega, fun _ => rfl⟩
  | 3, _ => exact ⟨8, rfl, by omega, fun _ => rfl⟩
  | 4, _ => exact ⟨5, rfl, by omega, fun _ => rfl⟩
  | 5, _ => exact ⟨2, rfl, by omega, fun _ => rfl⟩
  | 6, _ => exact ⟨3, rfl, by omega, fun _ => rfl⟩
  | 7, _ => exact ⟨6, rfl, by omega, fun _ => rfl⟩
  | 8, _ => exact ⟨9, rfl, by omega, fun _ => rfl⟩
  | 9, _ => exact ⟨12, rfl, by omega, fun _ => rfl⟩
  | 10, _ => exact ⟨13, rfl, by omega, fun _ => rfl⟩
  | 11, _ => exact ⟨10, rfl, by omega, fun _ => rfl⟩
  | 12, _ => exact ⟨7, rfl, by omega, fun _ => rfl⟩
  | 13, _ => exact ⟨11, rfl, by omega, fun _ => rfl⟩
  | 14, _ => exact ⟨14, rfl, by omega, fun _ => rfl⟩
  | 15, _ => exact ⟨15, rfl, by omega, fun _ => rfl⟩
  | n + 16, h => exact absurd h (by omega)
theorem unTo_length (d : Int) (k : Nat) : (unTo d k).length = 16 := by unfold unTo; split <;> simp [dcL]

set_option maxRecDepth 100000 in
set_option maxHeartbeats 1600000 in
theorem xf_unscan (d : Int) (w : World) :
    Calls Tryz.prog 87 #[.agg (ints (dcL d))] w fun e w' => e = .returned (.agg (ints (dcL d))) ∧ Only [] w w' := by
  obtain ⟨a1, a2, a3, a4, a5⟩ := four_new w (.cells (ints (dcL d)) 36) (.cells #[.int .i64 0, .int .i64 0, .int .i64 0, .int .i64 0, .int .i64 0, .int .i64 0, .int .i64 0, .int .i64 0, .int .i64 0, .int .i64 0, .int .i64 0, .int .i64 0, .int .i64 0, .int .i64 0, .int .i64 0, .int .i64 0] 36) (.cells #[.int .i64 0, .int .i64 0, .int .i64 0, .int .i64 0, .int .i64 0, .int .i64 0, .int .i64 0, .int .i64 0, .int .i64 0, .int .i64 0, .int .i64 0, .int .i64 0, .int .i64 0, .int .i64 0, .int .i64 0, .int .i64 0] 36) (.cells #[.int .u32 0, .int .i32 0, .int .u32 0, .int .i64 0, .int .i64 0, .int .i64 0, .int .i64 0, .int .i64 0, .int .i64 0, .int .i64 0, .int .i64 0, .int .i64 0, .int .i64 0, .int .i64 0, .int .i64 0, .int .i64 0, .int .i64 0, .int .i64 0, .int .i64 0] 233)
  have Hg := Lib.hid (scan_get _ _ a4)
  have A1 := Lib.hid a1
  have A2 := Lib.hid a2
  have A3 := Lib.hid a3
  have A5 := Lib.hid a5
  clear a1 a2 a3 a4 a5
  go_enter Tryz.func87, Tryz.ntmps87
  go_wp2_with fail
  refine Hg.out.mono ?_
  rintro r w1 ⟨rfl, g1⟩
  have B1 := Lib.hid (g1.heap A1.out (by simp <;> omega))
  have B2 := Lib.hid (g1.heap A2.out (by simp <;> omega))
  have B3 := Lib.hid (g1.heap A3.out (by simp <;> omega))
  have O1 : Hid (Only [] w w1) := Lib.hid (A5.out.trans' g1 (by simp <;> omega))
  clear g1 Hg A1 A2 A3 A5
  go_wp2
  go_loopw [9] (fun q wr => ∃ k : Nat, k ≤ 16 ∧ q = .int .i64 k ∧ wr.heap[w.heap.size]? = some (.cells (ints (dcL d)) 36 (0, 0)) ∧ (∃ z : Array Value, z.size = 16 ∧ wr.heap[w.heap.size + 1]? = some (.cells z 36 (0, 0))) ∧ wr.heap[w.heap.size + 1 + 1]? = some (.cells (ints (unTo d k)) 36 (0, 0)) ∧ Only [] w wr) (fun q _ => 16 - (intOf q).toNat)
  case atStart => exact ⟨0, by omega, rfl, B1.out, ⟨_, rfl, B2.out⟩, B3.out, O1.out⟩
  case round =>
    obtain ⟨k, hk, rfl, hb, ⟨z, hz, hr⟩, hu, ho⟩ := hrel
    by_cases hlt : k < 16
    · obtain ⟨p, hp, hp16, hset⟩ := sc16_at k hlt
      have c1 := cells_of hb k
      rw [ints_at _ _ (by rw [dcL_length]; exact hlt)] at c1
      have c2 : ∃ y, wr.cell? ⟨w.heap.size + 1 + 1, p, none⟩ = some (.int .i64 y) := ⟨_, by rw [cells_of hu, ints_at _ _ (by rw [unTo_length]; exact hp16)]⟩
      obtain ⟨y, c2⟩ := c2
      have z2 := free_of hu p
      obtain ⟨x, hx⟩ : ∃ x, x = (dcL d).getD k 0 := ⟨_, rfl⟩
      rw [← hx] at c1
      have hs := heap_set_same (i := p) (.int .i64 x) hu
      have hset := hset d
      rw [← hx] at hset
      rw [ints_setIf, hset] at hs
      have S1 := Lib.hid hs
      have S2 := Lib.hid (heap_set_other (b := w.heap.size + 1 + 1) (i := p) (.int .i64 x) hb (by omega))
      have S3 := Lib.hid (heap_set_other (b := w.heap.size + 1 + 1) (i := p) (.int .i64 x) hr (by omega))
      have S4 := Lib.hid (ho.setCell (p := ⟨w.heap.size + 1 + 1, p, none⟩) (.inr (by show w.heap.size ≤ w.heap.size + 1 + 1; omega)) (.int .i64 x))
      have hidx : ∀ w, (Instr.index 36 (.agg (ints sc16)) (.int .i64 (k : Int))).run Tryz.prog w = .ok (.int .i64 (p : Int)) w := fun w => by
        rw [← hp]
        exact run_index_ints 36 3 16 sc16 k w Tryz.underlying36 Tryz.underlying3 (by kernel_rfl) rfl hlt
      clear hs hb hr hu ho hset hx hp
      go_wp2
      go_roundw
      case rel => exact ⟨k + 1, by omega, by go_num, S2.out, ⟨z, hz, S3.out⟩, S1.out, S4.out⟩
      case measure => simp [intOf] <;> omega
    · obtain rfl : k = 16 := by omega
      rw [show unTo d 16 = dcL d from rfl] at hu
      have hsq : (ints (dcL d)).size = 16 := by rw [ints_size, dcL_length]
      have S1 := Lib.hid hu
      have S2 := Lib.hid hr
      have S4 := Lib.hid ho
      have Hsq := Lib.hid hsq
      have Hz := Lib.hid hz
      clear hb hu hr ho hsq hz
      go_wp2_with (first
        | (with_reducible refine wpList_load_row rfl _ _ rfl _ rfl _ _ _ _ S1.out Tryz.underlying36 rfl (by rw [Hsq.out]; kernel_rfl) ?_)
        | (refine wpList_store_agg rfl _ _ _ rfl _ _ rfl rfl S2.out (by rw [Hsq.out]; kernel_rfl) (by rw [Hz.out, Hsq.out]) (ints_one _) ?_))
      intro w8 hw8 ho8
      have W8 := Lib.hid hw8
      have O8 := Lib.hid (S4.out.trans' ho8 (by simp))
      clear hw8 ho8
      go_wp2
      exact ret_cell rfl _ rfl W8.out Tryz.underlying36 rfl (by rw [Hsq.out]; kernel_rfl) rfl ⟨rfl, O8.out⟩
end Go.Proofs.YtcmehedjdfopdaaGreat

namespace Go.Proofs.YtcmehedjdfopdaaGreat
open Go.RowKit


/-- A slice value that reads as a list of ints. -/
def IntSlice (w : World) (v : Value) (xs : List Int) : Prop :=
  ∃ ao cap, v = .slice ao xs.length cap ∧ (xs = [] ∨ ∃ g off, ao = some ⟨g, off, none⟩ ∧ ∀ i, i < xs.length → w.cell? ⟨g, off + i, none⟩ = some (.int .i64 (xs.getD i 0)))
theorem IntSlice.of_block {w : World} {g cap : Nat} {e : TypeId} {xs : List Int} (h : w.heap[g]? = some (.cells (ints xs) e (0, 0))) : IntSlice w (.slice (some ⟨g, 0, none⟩) xs.length cap) xs :=
  ⟨_, _, rfl, .inr ⟨g, 0, rfl, fun i hi => by rw [cells_of h, Nat.zero_add]; exact ints_at _ _ hi⟩⟩
theorem IntSlice.only {S : List Nat} {w w' : World} {v : Value} {xs : List Int} (h : IntSlice w v xs) (ho : Only S w w') (hs : ∀ g off c, v = .slice (some ⟨g, off, none⟩) xs.length c → g ∉ S) : IntSlice w' v xs := by
  obtain ⟨ao, cap, rfl, hx⟩ := h
  refine ⟨ao, cap, rfl, ?_⟩
  rcases hx with hx | ⟨g, off, rfl, hc⟩
  · exact .inl hx
  · exact .inr ⟨g, off, rfl, fun i hi => ho.cell (hc i hi) (hs g off cap rfl)⟩

theorem num_any (x : Int) (w : World) :
    Calls Tryz.prog 14 #[.int .i64 x] w fun e w' => e = .returned (.int .i64 x) ∧ w = w' := by
  go_enter Tryz.func14, Tryz.ntmps14
  go_wp2
  go_ret
  exact ⟨rfl, rfl⟩

end Go.Proofs.YtcmehedjdfopdaaGreat
