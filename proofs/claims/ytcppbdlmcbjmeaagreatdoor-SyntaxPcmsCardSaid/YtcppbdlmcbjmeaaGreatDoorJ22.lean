/-
  The walk over package syntax's May, where a macroblock has no motion that is told.
-/
import Derived.Test.YtcppbdlmcbjmeaaGreatDoorJ21
import Derived.Test.YtcppbdlmcbjmeaaGreatDoorJ13
namespace Go.Proofs.YtcppbdlmcbjmeaaGreatDoor
open Go.RowKit

theorem eq_parts (y : Nat → Int) (w : World) : (Op.equalIn 10000 46 (.agg ([.int .i64 (y 20), .int .i64 (y 21), .int .i64 (y 22), .int .i64 (y 23), .int .i64 (y 24), .int .i64 (y 25), .int .i64 (y 26), .int .i64 (y 27), .int .i64 (y 28), .int .i64 (y 29), .int .i64 (y 30), .int .i64 (y 31), .int .i64 (y 32), .int .i64 (y 33), .int .i64 (y 34), .int .i64 (y 35), .int .i64 (y 36), .int .i64 (y 37), .int .i64 (y 38), .int .i64 (y 39), .int .i64 (y 40), .int .i64 (y 41), .int .i64 (y 42), .int .i64 (y 43), .int .i64 (y 44), .int .i64 (y 45), .int .i64 (y 46), .int .i64 (y 47)] : List Value).toArray) (.agg #[.int .i64 0, .int .i64 0, .int .i64 0, .int .i64 0, .int .i64 0, .int .i64 0, .int .i64 0, .int .i64 0, .int .i64 0, .int .i64 0, .int .i64 0, .int .i64 0, .int .i64 0, .int .i64 0, .int .i64 0, .int .i64 0, .int .i64 0, .int .i64 0, .int .i64 0, .int .i64 0, .int .i64 0, .int .i64 0, .int .i64 0, .int .i64 0, .int .i64 0, .int .i64 0, .int .i64 0, .int .i64 0])).run Tryz.prog w = .ok (allEq 28 (fun i => y (20 + i)) (fun _ => 0)) w := eq_4part (fun i => y (20 + i)) (fun _ => 0) 9995 w
def noParts (y : Nat → Int) : Prop := ∀ i, i < 28 → y (20 + i) = 0
set_option maxRecDepth 100000 in
set_option maxHeartbeats 3200000 in
theorem my_may {len cap : Nat} {ao : Option Addr} {y : Nat → Int} {X : Nat → Value} {Hc : Array Value} {t : Int} {w : World} (ht : t = 0 ∨ t = 1 ∨ t = 2) (hH : Hc[2]? = some (.int .i64 t)) (hX : ∀ j, j < 482 → X j = .int .i64 (y j)) (h482 : X 482 = .slice ao len cap) (hk : y 0 ≠ 4) :
    Calls Tryz.prog 24 #[.agg (fnA 483 X), .agg Hc] w fun e w' => Tells (bodyOk y len t ∧ noParts y) w e w' := by
  have hk4 : (y 0 == 4) = false := by simpa using hk
  have heq := eq_parts y
  have hpz : Hid (allEq 28 (fun i => y (20 + i)) (fun _ => 0) = true ↔ noParts y) := Lib.hid (by rw [allEq_iff]; rfl)
  generalize allEq 28 (fun i => y (20 + i)) (fun _ => 0) = M at *
  have A0 : Hid (BlkIn ((w.alloc (.cells (fnA 483 X) 51)).alloc (.cells Hc 26)) w.heap.size 483 51 X) := Lib.hid (heap_alloc_lt _ (heap_alloc_at w _))
  have A1 := heap_alloc_at (w.alloc (.cells (fnA 483 X) 51)) (.cells Hc 26)
  have OA : Hid (Only [] w ((w.alloc (.cells (fnA 483 X) 51)).alloc (.cells Hc 26))) := Lib.hid (((Only.refl [] w).alloc _).alloc _)
  have hsz : (w.alloc (.cells (fnA 483 X) 51)).heap.size = w.heap.size + 1 := by simp
  rw [hsz] at A1
  have f1 : ((w.alloc (.cells (fnA 483 X) 51)).alloc (.cells Hc 26)).cell? ⟨w.heap.size + 1, 2, none⟩ = some (.int .i64 t) := by rw [cells_of A1]; exact hH
  have hpa := (show (Tryz.prog.info? 46).map (·.size) = some ([.int .i64 (y 20), .int .i64 (y 21), .int .i64 (y 22), .int .i64 (y 23), .int .i64 (y 24), .int .i64 (y 25), .int .i64 (y 26), .int .i64 (y 27), .int .i64 (y 28), .int .i64 (y 29), .int .i64 (y 30), .int .i64 (y 31), .int .i64 (y 32), .int .i64 (y 33), .int .i64 (y 34), .int .i64 (y 35), .int .i64 (y 36), .int .i64 (y 37), .int .i64 (y 38), .int .i64 (y 39), .int .i64 (y 40), .int .i64 (y 41), .int .i64 (y 42), .int .i64 (y 43), .int .i64 (y 44), .int .i64 (y 45), .int .i64 (y 46), .int .i64 (y 47)] : List Value).length by kernel_rfl)
  have HX := Lib.hid hX
  have H482 := Lib.hid h482
  have HPA := Lib.hid hpa
  have Ht := Lib.hid ht
  clear hX h482 hpa hsz A1 ht hH hk
  obtain ⟨Xa, hXa⟩ : ∃ Xa, Xa = fnA 483 X := ⟨_, rfl⟩
  rw [← hXa] at A0 OA f1 ⊢
  clear hXa
  go_enter Tryz.func24, Tryz.ntmps24
  go_wp2_with fail
  generalize (w.alloc (.cells Xa 51)).alloc (.cells Hc 26) = wa at *
  refine (my_body Ht.out A0.out HX.out H482.out).mono ?_
  rintro e w1 ⟨b1, rfl, hb1, o1⟩
  have O1 := Lib.hid (OA.out.trans o1)
  have hb := A0.out.only o1 (by simp)
  have B1 := Lib.hid hb1
  clear o1 f1 hb1
  cases b1 with
  | false =>
    clear hb
    go_wp2
    go_ret
    exact Tells.no (fun h => absurd (B1.out.2 h.1) (by decide)) O1.out
  | true =>
    have P1 := Lib.hid (B1.out.1 rfl)
    have e0 : w1.cell? ⟨w.heap.size, 0, none⟩ = some (.int .i64 (y 0)) := by rw [hb.cell 0 (by decide), HX.out 0 (by decide)]
    have hr : w1.rangeAt w.heap.size 20 ([.int .i64 (y 20), .int .i64 (y 21), .int .i64 (y 22), .int .i64 (y 23), .int .i64 (y 24), .int .i64 (y 25), .int .i64 (y 26), .int .i64 (y 27), .int .i64 (y 28), .int .i64 (y 29), .int .i64 (y 30), .int .i64 (y 31), .int .i64 (y 32), .int .i64 (y 33), .int .i64 (y 34), .int .i64 (y 35), .int .i64 (y 36), .int .i64 (y 37), .int .i64 (y 38), .int .i64 (y 39), .int .i64 (y 40), .int .i64 (y 41), .int .i64 (y 42), .int .i64 (y 43), .int .i64 (y 44), .int .i64 (y 45), .int .i64 (y 46), .int .i64 (y 47)] : List Value) := range_of (len := 28) hb (fun i => y (20 + i)) (fun i hi => HX.out (20 + i) (by omega)) (by decide)
    have HR := Lib.hid hr
    clear hr hb
    go_wp2_with (with_reducible refine wpList_load_mid rfl _ _ rfl w.heap.size 20 rfl ([.int .i64 (y 20), .int .i64 (y 21), .int .i64 (y 22), .int .i64 (y 23), .int .i64 (y 24), .int .i64 (y 25), .int .i64 (y 26), .int .i64 (y 27), .int .i64 (y 28), .int .i64 (y 29), .int .i64 (y 30), .int .i64 (y 31), .int .i64 (y 32), .int .i64 (y 33), .int .i64 (y 34), .int .i64 (y 35), .int .i64 (y 36), .int .i64 (y 37), .int .i64 (y 38), .int .i64 (y 39), .int .i64 (y 40), .int .i64 (y 41), .int .i64 (y 42), .int .i64 (y 43), .int .i64 (y 44), .int .i64 (y 45), .int .i64 (y 46), .int .i64 (y 47)] : List Value) _ HR.out Tryz.underlying46 rfl HPA.out ?_)
    go_wp2
    go_ret
    exact Tells.of (by rw [hpz.out]; exact ⟨fun h => ⟨P1.out, h⟩, fun h => h.2⟩) O1.out
end Go.Proofs.YtcppbdlmcbjmeaaGreatDoor
