/-
  The walk over bins.Get, where the decoder gives an element's bins: the element comes back.
-/
import Derived.Test.YtcppbdlmcbjmeaaGreatDoorJ30
import Derived.Recover
import Derived.Defers
namespace Go.Proofs.YtcppbdlmcbjmeaaGreatDoor
open Go.RowKit

/-- The deferred closure of a call that returns finds no panic. -/
theorem get_idle (pt pv pe : Value) (w : World) :
    CallsD Tryz.prog 249 #[pt, pv, pe] .returning w fun e u' w' => e = .returned (.tuple #[]) ∧ u' = .returning ∧ w' = w := by
  refine callsD_of_wpS Tryz.func249 rfl fun c₀ cs hu => ?_
  apply wpS_seq
  apply wpS_region
  simp [wpOpsS, go_sem, recoverD, hu, Tryz.ntmps249, Exit.thenS]
  apply wpS_seq
  apply wpS_region
  simp [wpOpsS, go_sem, Exit.thenS]
  refine wpS_cond (t := false) (by simp [Act.eval, Array.replicate]) ?_
  simp only [Bool.false_eq_true, if_false]
  refine wpS_of_wp (wp_skip ?_)
  cases c₀
  simp_all [bodyPostS, results, Tryz.results249]

set_option maxRecDepth 100000 in
theorem dec_keep (b tb sb : Nat) (d : Dec) (w : World) (hd : DecIs w b tb sb d) :
    Calls Tryz.prog 248 #[.pointer (some ⟨b, 0, none⟩)] w fun r w' => (∃ k0 k1 k2 k3, r = .returned (.agg #[.int .i64 k0, .int .i64 k1, .int .i64 k2, .bool k3])) ∧ Only [] w w' := by
  have c3 : w.cell? ⟨b, 3, none⟩ = some (.int .i64 d.pos) := by rw [cells_of hd.cells]; rfl
  have c4 : w.cell? ⟨b, 4, none⟩ = some (.int .i64 d.wid) := by rw [cells_of hd.cells]; rfl
  have c5 : w.cell? ⟨b, 5, none⟩ = some (.int .i64 d.off) := by rw [cells_of hd.cells]; rfl
  have c6 : w.cell? ⟨b, 6, none⟩ = some (.bool d.over) := by rw [cells_of hd.cells]; rfl
  have hlt := lt_of_block hd.cells
  clear hd
  go_enter Tryz.func248, Tryz.ntmps248
  go_wp2
  go_region
  go_wp2
  exact bodyPost_ret (v := .agg #[.int .i64 d.pos, .int .i64 d.wid, .int .i64 d.off, .bool d.over]) (by simp [results, Tryz.results248, go_sem]) rfl ⟨⟨_, _, _, _, rfl⟩, ((Only.refl _ _).alloc _).drew⟩

set_option maxRecDepth 100000 in
set_option maxHeartbeats 1600000 in
theorem get_flag {w0 w : World} {b tb sb : Nat} {d d' : Dec} (h : DecAt w0 w b tb sb d) (el inc v most : Int) (hk : kindOf el = 1) (hv : v = 0 ∨ v = 1) (i0 : 0 ≤ inc) (i1 : inc ≤ 7) (hg : d.gives (deedsL el inc 0 [48 + v]) d') (hs : d.s.size ≤ 140737488355328) :
    Calls Tryz.prog 246 #[.pointer (some ⟨b, 0, none⟩), .int .i64 el, .int .i64 inc, .int .i64 most] w fun r w' => r = .returned (.tuple #[.int .i64 v, .int .i64 0]) ∧ DecAt w0 w' b tb sb d' ∧ Only [b, sb] w w' := by
  obtain ⟨e0, e1⟩ := kindOf_el el (by omega)
  obtain ⟨d1, q1, q2, q3⟩ := gives_flag hv (ctxAt_range el inc 0 e0 e1 i0).1 hg
  obtain rfl : d' = d1 := q3
  have Q1 := Lib.hid q1
  clear q1 q2
  have hmf : ∀ (fn : Fn) (first cap : Array Value) (w : World), (Instr.makeFunc fn first cap).run Tryz.prog w = .ok (.func fn first cap) w := fun _ _ _ _ => rfl
  have H := Lib.hid h
  have Hk := Lib.hid hk
  have Hg := Lib.hid hg
  have hlb := lt_of_block h.is.cells
  have hls := lt_of_block h.is.sts
  have hlt := lt_of_block h.is.tab
  clear h hk hg
  go_enter_defers Tryz.func246, Tryz.ntmps246
  go_wp2_with fail
  have ho1 : Only [] w ((w.alloc (.cells #[.int .i64 0] 3)).alloc (.cells #[.int .i64 0] 32)) := ((Only.refl _ w).alloc _).alloc _
  have hv1 : ((w.alloc (.cells #[.int .i64 0] 3)).alloc (.cells #[.int .i64 0] 32)).heap[w.heap.size]? = some (.cells #[.int .i64 0] 3 (0, 0)) := heap_alloc_lt _ (heap_alloc_at w _)
  have he1 : ((w.alloc (.cells #[.int .i64 0] 3)).alloc (.cells #[.int .i64 0] 32)).heap[w.heap.size + 1]? = some (.cells #[.int .i64 0] 32 (0, 0)) := by
    have := heap_alloc_at (w.alloc (.cells #[.int .i64 0] 3)) (.cells #[.int .i64 0] 32)
    simpa using this
  have hs1 : ((w.alloc (.cells #[.int .i64 0] 3)).alloc (.cells #[.int .i64 0] 32)).heap.size = w.heap.size + 1 + 1 := by simp
  generalize (w.alloc (.cells #[.int .i64 0] 3)).alloc (.cells #[.int .i64 0] 32) = wA at *
  have hkk : (wA.alloc (.cells kNew 331)).heap[w.heap.size + 1 + 1]? = some (.cells kNew 331 (0, 0)) := by rw [← hs1]; exact heap_alloc_at wA _
  refine (kinds_get (w.heap.size + 1 + 1) el _ hkk).mono ?_
  rintro r w1 ⟨rfl, g1⟩
  have ho2 : Only [] wA w1 := ((Only.refl [] wA).alloc _).trans' g1 (by simp; omega)
  have Ho2 := Lib.hid (ho1.trans ho2)
  have Hv2 := Lib.hid (ho2.heap hv1 (by simp))
  have He2 := Lib.hid (ho2.heap he1 (by simp))
  have H2 := Lib.hid (H.out.only (ho1.trans ho2) (by simp) (by simp) (by simp) (by simp))
  have hlo2 := ho2.size
  rw [hs1] at hlo2
  clear g1 ho1 ho2 hv1 he1 hs1 hkk
  rw [Hk.out]
  go_wp2_with fail
  refine (dec_keep b tb sb d w1 H2.out.is).mono ?_
  rintro r w2 ⟨⟨k0, k1, k2, k3, rfl⟩, ho3⟩
  have hlo3 := ho3.size
  have Ho3 := Lib.hid (Ho2.out.trans ho3)
  have Hv3 := Lib.hid (ho3.heap Hv2.out (by simp))
  have He3 := Lib.hid (ho3.heap He2.out (by simp))
  have H3 := Lib.hid (H2.out.only ho3 (by simp) (by simp) (by simp) (by simp))
  clear ho3
  go_wp2_with fail
  have hoM : Only [] w2 ((w2.alloc (.cells #[.pointer (some ⟨b, 0, none⟩), .int .i64 k0, .int .i64 k1, .int .i64 k2, .bool k3, .slice none 0 0, .int .i64 el, .int .i64 inc] 344)).alloc (.cells #[.pointer (some ⟨w2.heap.size, 0, none⟩)] 338)) := ((Only.refl _ w2).alloc _).alloc _
  have htk : ((w2.alloc (.cells #[.pointer (some ⟨b, 0, none⟩), .int .i64 k0, .int .i64 k1, .int .i64 k2, .bool k3, .slice none 0 0, .int .i64 el, .int .i64 inc] 344)).alloc (.cells #[.pointer (some ⟨w2.heap.size, 0, none⟩)] 338)).heap[w2.heap.size]? = some (.cells #[.pointer (some ⟨b, 0, none⟩), .int .i64 k0, .int .i64 k1, .int .i64 k2, .bool k3, .slice none 0 0, .int .i64 el, .int .i64 inc] 344 (0, 0)) := heap_alloc_lt _ (heap_alloc_at w2 _)
  have htv : ((w2.alloc (.cells #[.pointer (some ⟨b, 0, none⟩), .int .i64 k0, .int .i64 k1, .int .i64 k2, .bool k3, .slice none 0 0, .int .i64 el, .int .i64 inc] 344)).alloc (.cells #[.pointer (some ⟨w2.heap.size, 0, none⟩)] 338)).heap[w2.heap.size + 1]? = some (.cells #[.pointer (some ⟨w2.heap.size, 0, none⟩)] 338 (0, 0)) := by
    have := heap_alloc_at (w2.alloc (.cells #[.pointer (some ⟨b, 0, none⟩), .int .i64 k0, .int .i64 k1, .int .i64 k2, .bool k3, .slice none 0 0, .int .i64 el, .int .i64 inc] 344)) (.cells #[.pointer (some ⟨w2.heap.size, 0, none⟩)] 338)
    simpa using this
  have hsM : ((w2.alloc (.cells #[.pointer (some ⟨b, 0, none⟩), .int .i64 k0, .int .i64 k1, .int .i64 k2, .bool k3, .slice none 0 0, .int .i64 el, .int .i64 inc] 344)).alloc (.cells #[.pointer (some ⟨w2.heap.size, 0, none⟩)] 338)).heap.size = w2.heap.size + 1 + 1 := by simp
  generalize ((w2.alloc (.cells #[.pointer (some ⟨b, 0, none⟩), .int .i64 k0, .int .i64 k1, .int .i64 k2, .bool k3, .slice none 0 0, .int .i64 el, .int .i64 inc] 344)).alloc (.cells #[.pointer (some ⟨w2.heap.size, 0, none⟩)] 338)) = wM at *
  obtain ⟨tk, htkd⟩ : ∃ t, t = w2.heap.size := ⟨_, rfl⟩
  rw [← htkd] at htk htv hsM hlo3 ⊢
  clear htkd
  have hz0 := H.out.on.size
  have HoM := Lib.hid (Ho3.out.trans hoM)
  have HvM := Lib.hid (hoM.heap Hv3.out (by simp))
  have HeM := Lib.hid (hoM.heap He3.out (by simp))
  have T := Lib.hid (show TakeAt w0 wM wM b tb sb tk (.slice none 0 0) 0 el inc (.int .i64 k0) (.int .i64 k1) (.int .i64 k2) (.bool k3) d from
    ⟨H3.out.only hoM (by simp) (by simp) (by simp) (by simp), htk, ⟨[], World.ownsRow_nil _ _ _ _⟩, Only.refl _ _, by omega, by omega, by omega, by omega, by omega⟩)
  have Htv := Lib.hid htv
  have nv : w.heap.size ∉ [b, sb, tk] := by simp; omega
  have ne : w.heap.size + 1 ∉ [b, sb, tk] := by simp; omega
  have nt : tk + 1 ∉ [b, sb, tk] := by simp; omega
  clear hoM htk htv Ho2 Hv2 He2 H2 Ho3 Hv3 He3 H3
  refine (take_bin T.out Q1.out hs e0 e1 i0 i1 (by omega)).mono ?_
  rintro r w3 ⟨rfl, sv, g1⟩
  have G1 := Lib.hid g1
  clear g1
  have cv := cells_of (G1.out.on.heap HvM.out nv) 0
  have zv := free_of (G1.out.on.heap HvM.out nv) 0
  have ce := cells_of (G1.out.on.heap HeM.out ne) 0
  have ze := free_of (G1.out.on.heap HeM.out ne) 0
  have ct := cells_of (G1.out.on.heap Htv.out nt) 0
  go_wp2
  refine leaves_cons (f := 249) (args := #[.pointer (some ⟨tk + 1, 0, none⟩), .pointer (some ⟨w.heap.size, 0, none⟩), .pointer (some ⟨w.heap.size + 1, 0, none⟩)]) (by simp) (by simp [go_sem]) ?_
  refine (get_idle _ _ _ _).mono ?_
  rintro e u' w'' ⟨rfl, rfl, rfl⟩
  have f0 := heap_set_same (i := 0) (.int .i64 v) (G1.out.on.heap HvM.out nv)
  have f1 := heap_set_same (i := 0) (.int .i64 v) f0
  have f2 := heap_set_other (b := w.heap.size + 1) (i := 0) (.int .i64 0) f1 (by omega)
  have f3 := heap_set_same (i := 0) (.int .i64 0) (heap_set_other (b := w.heap.size) (i := 0) (.int .i64 v) (heap_set_other (b := w.heap.size) (i := 0) (.int .i64 v) (G1.out.on.heap HeM.out ne) (by omega)) (by omega))
  have o4 : Only [w.heap.size, w.heap.size + 1] w3 (((w3.setCell ⟨w.heap.size, 0, none⟩ (.int .i64 v)).setCell ⟨w.heap.size, 0, none⟩ (.int .i64 v)).setCell ⟨w.heap.size + 1, 0, none⟩ (.int .i64 0)) := (((Only.refl _ w3).setCell (.inl (by simp)) _).setCell (.inl (by simp)) _).setCell (.inl (by simp)) _
  generalize ((w3.setCell ⟨w.heap.size, 0, none⟩ (.int .i64 v)).setCell ⟨w.heap.size, 0, none⟩ (.int .i64 v)).setCell ⟨w.heap.size + 1, 0, none⟩ (.int .i64 0) = w4 at *
  have cv4 : w4.cell? ⟨w.heap.size, 0, none⟩ = some (.int .i64 v) := by rw [cells_of f2]; rfl
  have ce4 : w4.cell? ⟨w.heap.size + 1, 0, none⟩ = some (.int .i64 0) := by rw [cells_of f3]; rfl
  have hd4 : DecAt w0 w4 b tb sb d' := G1.out.dec.only o4 (by simp; omega) (by simp; omega) (by simp; omega) (by simp; omega)
  have ho4 : Only [b, sb] w w4 := ((HoM.out.mono (T := [b, sb]) (by simp)).trans' G1.out.on (by simp; omega)).trans' o4 (by simp)
  simp [Leaves, settle, results, Tryz.results246, go_sem, cv4, ce4]
  exact ⟨hd4, ho4⟩

set_option maxRecDepth 100000 in
set_option maxHeartbeats 1600000 in
theorem get_short {w0 w : World} {b tb sb : Nat} {d d' : Dec} (h : DecAt w0 w b tb sb d) (el inc : Int) (v l : Nat) (hk : kindOf el = 2) (hvl : v ≤ l) (hl0 : 1 ≤ l) (hl1 : l ≤ 63) (i0 : 0 ≤ inc) (i1 : inc ≤ 7) (hg : d.gives (deedsL el inc 0 (onesL v l)) d') (hs : d.s.size ≤ 140737488355328) :
    Calls Tryz.prog 246 #[.pointer (some ⟨b, 0, none⟩), .int .i64 el, .int .i64 inc, .int .i64 l] w fun r w' => r = .returned (.tuple #[.int .i64 v, .int .i64 0]) ∧ DecAt w0 w' b tb sb d' ∧ Only [b, sb] w w' := by
  obtain ⟨e0, e1⟩ := kindOf_el el (by omega)
  rw [← List.append_nil (onesL v l)] at hg
  have hmf : ∀ (fn : Fn) (first cap : Array Value) (w : World), (Instr.makeFunc fn first cap).run Tryz.prog w = .ok (.func fn first cap) w := fun _ _ _ _ => rfl
  have H := Lib.hid h
  have Hk := Lib.hid hk
  have Hg := Lib.hid hg
  have hlb := lt_of_block h.is.cells
  have hls := lt_of_block h.is.sts
  have hlt := lt_of_block h.is.tab
  clear h hk hg
  go_enter_defers Tryz.func246, Tryz.ntmps246
  go_wp2_with fail
  have ho1 : Only [] w ((w.alloc (.cells #[.int .i64 0] 3)).alloc (.cells #[.int .i64 0] 32)) := ((Only.refl _ w).alloc _).alloc _
  have hv1 : ((w.alloc (.cells #[.int .i64 0] 3)).alloc (.cells #[.int .i64 0] 32)).heap[w.heap.size]? = some (.cells #[.int .i64 0] 3 (0, 0)) := heap_alloc_lt _ (heap_alloc_at w _)
  have he1 : ((w.alloc (.cells #[.int .i64 0] 3)).alloc (.cells #[.int .i64 0] 32)).heap[w.heap.size + 1]? = some (.cells #[.int .i64 0] 32 (0, 0)) := by
    have := heap_alloc_at (w.alloc (.cells #[.int .i64 0] 3)) (.cells #[.int .i64 0] 32)
    simpa using this
  have hs1 : ((w.alloc (.cells #[.int .i64 0] 3)).alloc (.cells #[.int .i64 0] 32)).heap.size = w.heap.size + 1 + 1 := by simp
  generalize (w.alloc (.cells #[.int .i64 0] 3)).alloc (.cells #[.int .i64 0] 32) = wA at *
  have hkk : (wA.alloc (.cells kNew 331)).heap[w.heap.size + 1 + 1]? = some (.cells kNew 331 (0, 0)) := by rw [← hs1]; exact heap_alloc_at wA _
  refine (kinds_get (w.heap.size + 1 + 1) el _ hkk).mono ?_
  rintro r w1 ⟨rfl, g1⟩
  have ho2 : Only [] wA w1 := ((Only.refl [] wA).alloc _).trans' g1 (by simp; omega)
  have Ho2 := Lib.hid (ho1.trans ho2)
  have Hv2 := Lib.hid (ho2.heap hv1 (by simp))
  have He2 := Lib.hid (ho2.heap he1 (by simp))
  have H2 := Lib.hid (H.out.only (ho1.trans ho2) (by simp) (by simp) (by simp) (by simp))
  have hlo2 := ho2.size
  rw [hs1] at hlo2
  clear g1 ho1 ho2 hv1 he1 hs1 hkk
  rw [Hk.out]
  go_wp2_with fail
  refine (dec_keep b tb sb d w1 H2.out.is).mono ?_
  rintro r w2 ⟨⟨k0, k1, k2, k3, rfl⟩, ho3⟩
  have hlo3 := ho3.size
  have Ho3 := Lib.hid (Ho2.out.trans ho3)
  have Hv3 := Lib.hid (ho3.heap Hv2.out (by simp))
  have He3 := Lib.hid (ho3.heap He2.out (by simp))
  have H3 := Lib.hid (H2.out.only ho3 (by simp) (by simp) (by simp) (by simp))
  clear ho3
  go_wp2_with fail
  have hoM : Only [] w2 ((w2.alloc (.cells #[.pointer (some ⟨b, 0, none⟩), .int .i64 k0, .int .i64 k1, .int .i64 k2, .bool k3, .slice none 0 0, .int .i64 el, .int .i64 inc] 344)).alloc (.cells #[.pointer (some ⟨w2.heap.size, 0, none⟩)] 338)) := ((Only.refl _ w2).alloc _).alloc _
  have htk : ((w2.alloc (.cells #[.pointer (some ⟨b, 0, none⟩), .int .i64 k0, .int .i64 k1, .int .i64 k2, .bool k3, .slice none 0 0, .int .i64 el, .int .i64 inc] 344)).alloc (.cells #[.pointer (some ⟨w2.heap.size, 0, none⟩)] 338)).heap[w2.heap.size]? = some (.cells #[.pointer (some ⟨b, 0, none⟩), .int .i64 k0, .int .i64 k1, .int .i64 k2, .bool k3, .slice none 0 0, .int .i64 el, .int .i64 inc] 344 (0, 0)) := heap_alloc_lt _ (heap_alloc_at w2 _)
  have htv : ((w2.alloc (.cells #[.pointer (some ⟨b, 0, none⟩), .int .i64 k0, .int .i64 k1, .int .i64 k2, .bool k3, .slice none 0 0, .int .i64 el, .int .i64 inc] 344)).alloc (.cells #[.pointer (some ⟨w2.heap.size, 0, none⟩)] 338)).heap[w2.heap.size + 1]? = some (.cells #[.pointer (some ⟨w2.heap.size, 0, none⟩)] 338 (0, 0)) := by
    have := heap_alloc_at (w2.alloc (.cells #[.pointer (some ⟨b, 0, none⟩), .int .i64 k0, .int .i64 k1, .int .i64 k2, .bool k3, .slice none 0 0, .int .i64 el, .int .i64 inc] 344)) (.cells #[.pointer (some ⟨w2.heap.size, 0, none⟩)] 338)
    simpa using this
  have hsM : ((w2.alloc (.cells #[.pointer (some ⟨b, 0, none⟩), .int .i64 k0, .int .i64 k1, .int .i64 k2, .bool k3, .slice none 0 0, .int .i64 el, .int .i64 inc] 344)).alloc (.cells #[.pointer (some ⟨w2.heap.size, 0, none⟩)] 338)).heap.size = w2.heap.size + 1 + 1 := by simp
  generalize ((w2.alloc (.cells #[.pointer (some ⟨b, 0, none⟩), .int .i64 k0, .int .i64 k1, .int .i64 k2, .bool k3, .slice none 0 0, .int .i64 el, .int .i64 inc] 344)).alloc (.cells #[.pointer (some ⟨w2.heap.size, 0, none⟩)] 338)) = wM at *
  obtain ⟨tk, htkd⟩ : ∃ t, t = w2.heap.size := ⟨_, rfl⟩
  rw [← htkd] at htk htv hsM hlo3 ⊢
  clear htkd
  have hz0 := H.out.on.size
  have HoM := Lib.hid (Ho3.out.trans hoM)
  have HvM := Lib.hid (hoM.heap Hv3.out (by simp))
  have HeM := Lib.hid (hoM.heap He3.out (by simp))
  have T := Lib.hid (show TakeAt w0 wM wM b tb sb tk (.slice none 0 0) 0 el inc (.int .i64 k0) (.int .i64 k1) (.int .i64 k2) (.bool k3) d from
    ⟨H3.out.only hoM (by simp) (by simp) (by simp) (by simp), htk, ⟨[], World.ownsRow_nil _ _ _ _⟩, Only.refl _ _, by omega, by omega, by omega, by omega, by omega⟩)
  have Htv := Lib.hid htv
  have nv : w.heap.size ∉ [b, sb, tk] := by simp; omega
  have ne : w.heap.size + 1 ∉ [b, sb, tk] := by simp; omega
  have nt : tk + 1 ∉ [b, sb, tk] := by simp; omega
  clear hoM htk htv Ho2 Hv2 He2 H2 Ho3 Hv3 He3 H3
  refine (take_ones v l [] T.out hvl (by omega) Hg.out hs e0 e1 i0 i1).mono ?_
  rintro r w3 ⟨rfl, sv, n1, d1, g1, g2, -⟩
  obtain rfl : d' = d1 := g2
  have G1 := Lib.hid g1
  clear g1
  have cv := cells_of (G1.out.on.heap HvM.out nv) 0
  have zv := free_of (G1.out.on.heap HvM.out nv) 0
  have ce := cells_of (G1.out.on.heap HeM.out ne) 0
  have ze := free_of (G1.out.on.heap HeM.out ne) 0
  have ct := cells_of (G1.out.on.heap Htv.out nt) 0
  go_wp2
  refine leaves_cons (f := 249) (args := #[.pointer (some ⟨tk + 1, 0, none⟩), .pointer (some ⟨w.heap.size, 0, none⟩), .pointer (some ⟨w.heap.size + 1, 0, none⟩)]) (by simp) (by simp [go_sem]) ?_
  refine (get_idle _ _ _ _).mono ?_
  rintro e u' w'' ⟨rfl, rfl, rfl⟩
  have f0 := heap_set_same (i := 0) (.int .i64 v) (G1.out.on.heap HvM.out nv)
  have f1 := heap_set_same (i := 0) (.int .i64 v) f0
  have f2 := heap_set_other (b := w.heap.size + 1) (i := 0) (.int .i64 0) f1 (by omega)
  have f3 := heap_set_same (i := 0) (.int .i64 0) (heap_set_other (b := w.heap.size) (i := 0) (.int .i64 v) (heap_set_other (b := w.heap.size) (i := 0) (.int .i64 v) (G1.out.on.heap HeM.out ne) (by omega)) (by omega))
  have o4 : Only [w.heap.size, w.heap.size + 1] w3 (((w3.setCell ⟨w.heap.size, 0, none⟩ (.int .i64 v)).setCell ⟨w.heap.size, 0, none⟩ (.int .i64 v)).setCell ⟨w.heap.size + 1, 0, none⟩ (.int .i64 0)) := (((Only.refl _ w3).setCell (.inl (by simp)) _).setCell (.inl (by simp)) _).setCell (.inl (by simp)) _
  generalize ((w3.setCell ⟨w.heap.size, 0, none⟩ (.int .i64 v)).setCell ⟨w.heap.size, 0, none⟩ (.int .i64 v)).setCell ⟨w.heap.size + 1, 0, none⟩ (.int .i64 0) = w4 at *
  have cv4 : w4.cell? ⟨w.heap.size, 0, none⟩ = some (.int .i64 v) := by rw [cells_of f2]; rfl
  have ce4 : w4.cell? ⟨w.heap.size + 1, 0, none⟩ = some (.int .i64 0) := by rw [cells_of f3]; rfl
  have hd4 : DecAt w0 w4 b tb sb d' := G1.out.dec.only o4 (by simp; omega) (by simp; omega) (by simp; omega) (by simp; omega)
  have ho4 : Only [b, sb] w w4 := ((HoM.out.mono (T := [b, sb]) (by simp)).trans' G1.out.on (by simp; omega)).trans' o4 (by simp)
  simp [Leaves, settle, results, Tryz.results246, go_sem, cv4, ce4]
  exact ⟨hd4, ho4⟩

set_option maxRecDepth 100000 in
set_option maxHeartbeats 1600000 in
theorem get_great {w0 w : World} {b tb sb : Nat} {d d' : Dec} (h : DecAt w0 w b tb sb d) (el inc most : Int) (v : Nat) (hk : kindOf el = 4) (hvl : v ≤ 65535) (i0 : 0 ≤ inc) (i1 : inc ≤ 7) (hg : d.gives (deedsL el inc 0 (greatL v 14 0)) d') (hs : d.s.size ≤ 140737488355328) :
    Calls Tryz.prog 246 #[.pointer (some ⟨b, 0, none⟩), .int .i64 el, .int .i64 inc, .int .i64 most] w fun r w' => r = .returned (.tuple #[.int .i64 v, .int .i64 0]) ∧ DecAt w0 w' b tb sb d' ∧ Only [b, sb] w w' := by
  obtain ⟨e0, e1⟩ := kindOf_el el (by omega)
  rw [← List.append_nil (greatL v 14 0)] at hg
  have hmf : ∀ (fn : Fn) (first cap : Array Value) (w : World), (Instr.makeFunc fn first cap).run Tryz.prog w = .ok (.func fn first cap) w := fun _ _ _ _ => rfl
  have H := Lib.hid h
  have Hk := Lib.hid hk
  have Hg := Lib.hid hg
  have hlb := lt_of_block h.is.cells
  have hls := lt_of_block h.is.sts
  have hlt := lt_of_block h.is.tab
  clear h hk hg
  go_enter_defers Tryz.func246, Tryz.ntmps246
  go_wp2_with fail
  have ho1 : Only [] w ((w.alloc (.cells #[.int .i64 0] 3)).alloc (.cells #[.int .i64 0] 32)) := ((Only.refl _ w).alloc _).alloc _
  have hv1 : ((w.alloc (.cells #[.int .i64 0] 3)).alloc (.cells #[.int .i64 0] 32)).heap[w.heap.size]? = some (.cells #[.int .i64 0] 3 (0, 0)) := heap_alloc_lt _ (heap_alloc_at w _)
  have he1 : ((w.alloc (.cells #[.int .i64 0] 3)).alloc (.cells #[.int .i64 0] 32)).heap[w.heap.size + 1]? = some (.cells #[.int .i64 0] 32 (0, 0)) := by
    have := heap_alloc_at (w.alloc (.cells #[.int .i64 0] 3)) (.cells #[.int .i64 0] 32)
    simpa using this
  have hs1 : ((w.alloc (.cells #[.int .i64 0] 3)).alloc (.cells #[.int .i64 0] 32)).heap.size = w.heap.size + 1 + 1 := by simp
  generalize (w.alloc (.cells #[.int .i64 0] 3)).alloc (.cells #[.int .i64 0] 32) = wA at *
  have hkk : (wA.alloc (.cells kNew 331)).heap[w.heap.size + 1 + 1]? = some (.cells kNew 331 (0, 0)) := by rw [← hs1]; exact heap_alloc_at wA _
  refine (kinds_get (w.heap.size + 1 + 1) el _ hkk).mono ?_
  rintro r w1 ⟨rfl, g1⟩
  have ho2 : Only [] wA w1 := ((Only.refl [] wA).alloc _).trans' g1 (by simp; omega)
  have Ho2 := Lib.hid (ho1.trans ho2)
  have Hv2 := Lib.hid (ho2.heap hv1 (by simp))
  have He2 := Lib.hid (ho2.heap he1 (by simp))
  have H2 := Lib.hid (H.out.only (ho1.trans ho2) (by simp) (by simp) (by simp) (by simp))
  have hlo2 := ho2.size
  rw [hs1] at hlo2
  clear g1 ho1 ho2 hv1 he1 hs1 hkk
  rw [Hk.out]
  go_wp2_with fail
  refine (dec_keep b tb sb d w1 H2.out.is).mono ?_
  rintro r w2 ⟨⟨k0, k1, k2, k3, rfl⟩, ho3⟩
  have hlo3 := ho3.size
  have Ho3 := Lib.hid (Ho2.out.trans ho3)
  have Hv3 := Lib.hid (ho3.heap Hv2.out (by simp))
  have He3 := Lib.hid (ho3.heap He2.out (by simp))
  have H3 := Lib.hid (H2.out.only ho3 (by simp) (by simp) (by simp) (by simp))
  clear ho3
  go_wp2_with fail
  have hoM : Only [] w2 ((w2.alloc (.cells #[.pointer (some ⟨b, 0, none⟩), .int .i64 k0, .int .i64 k1, .int .i64 k2, .bool k3, .slice none 0 0, .int .i64 el, .int .i64 inc] 344)).alloc (.cells #[.pointer (some ⟨w2.heap.size, 0, none⟩)] 338)) := ((Only.refl _ w2).alloc _).alloc _
  have htk : ((w2.alloc (.cells #[.pointer (some ⟨b, 0, none⟩), .int .i64 k0, .int .i64 k1, .int .i64 k2, .bool k3, .slice none 0 0, .int .i64 el, .int .i64 inc] 344)).alloc (.cells #[.pointer (some ⟨w2.heap.size, 0, none⟩)] 338)).heap[w2.heap.size]? = some (.cells #[.pointer (some ⟨b, 0, none⟩), .int .i64 k0, .int .i64 k1, .int .i64 k2, .bool k3, .slice none 0 0, .int .i64 el, .int .i64 inc] 344 (0, 0)) := heap_alloc_lt _ (heap_alloc_at w2 _)
  have htv : ((w2.alloc (.cells #[.pointer (some ⟨b, 0, none⟩), .int .i64 k0, .int .i64 k1, .int .i64 k2, .bool k3, .slice none 0 0, .int .i64 el, .int .i64 inc] 344)).alloc (.cells #[.pointer (some ⟨w2.heap.size, 0, none⟩)] 338)).heap[w2.heap.size + 1]? = some (.cells #[.pointer (some ⟨w2.heap.size, 0, none⟩)] 338 (0, 0)) := by
    have := heap_alloc_at (w2.alloc (.cells #[.pointer (some ⟨b, 0, none⟩), .int .i64 k0, .int .i64 k1, .int .i64 k2, .bool k3, .slice none 0 0, .int .i64 el, .int .i64 inc] 344)) (.cells #[.pointer (some ⟨w2.heap.size, 0, none⟩)] 338)
    simpa using this
  have hsM : ((w2.alloc (.cells #[.pointer (some ⟨b, 0, none⟩), .int .i64 k0, .int .i64 k1, .int .i64 k2, .bool k3, .slice none 0 0, .int .i64 el, .int .i64 inc] 344)).alloc (.cells #[.pointer (some ⟨w2.heap.size, 0, none⟩)] 338)).heap.size = w2.heap.size + 1 + 1 := by simp
  generalize ((w2.alloc (.cells #[.pointer (some ⟨b, 0, none⟩), .int .i64 k0, .int .i64 k1, .int .i64 k2, .bool k3, .slice none 0 0, .int .i64 el, .int .i64 inc] 344)).alloc (.cells #[.pointer (some ⟨w2.heap.size, 0, none⟩)] 338)) = wM at *
  obtain ⟨tk, htkd⟩ : ∃ t, t = w2.heap.size := ⟨_, rfl⟩
  rw [← htkd] at htk htv hsM hlo3 ⊢
  clear htkd
  have hz0 := H.out.on.size
  have HoM := Lib.hid (Ho3.out.trans hoM)
  have HvM := Lib.hid (hoM.heap Hv3.out (by simp))
  have HeM := Lib.hid (hoM.heap He3.out (by simp))
  have T := Lib.hid (show TakeAt w0 wM wM b tb sb tk (.slice none 0 0) 0 el inc (.int .i64 k0) (.int .i64 k1) (.int .i64 k2) (.bool k3) d from
    ⟨H3.out.only hoM (by simp) (by simp) (by simp) (by simp), htk, ⟨[], World.ownsRow_nil _ _ _ _⟩, Only.refl _ _, by omega, by omega, by omega, by omega, by omega⟩)
  have Htv := Lib.hid htv
  have nv : w.heap.size ∉ [b, sb, tk] := by simp; omega
  have ne : w.heap.size + 1 ∉ [b, sb, tk] := by simp; omega
  have nt : tk + 1 ∉ [b, sb, tk] := by simp; omega
  clear hoM htk htv Ho2 Hv2 He2 H2 Ho3 Hv3 He3 H3
  refine (take_great v 14 0 65535 [] T.out hvl (by omega) (by omega) (by omega) (by omega) Hg.out hs e0 e1 i0 i1).mono ?_
  rintro r w3 ⟨rfl, sv, n1, d1, g1, g2, -⟩
  obtain rfl : d' = d1 := g2
  have G1 := Lib.hid g1
  clear g1
  have cv := cells_of (G1.out.on.heap HvM.out nv) 0
  have zv := free_of (G1.out.on.heap HvM.out nv) 0
  have ce := cells_of (G1.out.on.heap HeM.out ne) 0
  have ze := free_of (G1.out.on.heap HeM.out ne) 0
  have ct := cells_of (G1.out.on.heap Htv.out nt) 0
  go_wp2
  refine leaves_cons (f := 249) (args := #[.pointer (some ⟨tk + 1, 0, none⟩), .pointer (some ⟨w.heap.size, 0, none⟩), .pointer (some ⟨w.heap.size + 1, 0, none⟩)]) (by simp) (by simp [go_sem]) ?_
  refine (get_idle _ _ _ _).mono ?_
  rintro e u' w'' ⟨rfl, rfl, rfl⟩
  have f0 := heap_set_same (i := 0) (.int .i64 v) (G1.out.on.heap HvM.out nv)
  have f1 := heap_set_same (i := 0) (.int .i64 v) f0
  have f2 := heap_set_other (b := w.heap.size + 1) (i := 0) (.int .i64 0) f1 (by omega)
  have f3 := heap_set_same (i := 0) (.int .i64 0) (heap_set_other (b := w.heap.size) (i := 0) (.int .i64 v) (heap_set_other (b := w.heap.size) (i := 0) (.int .i64 v) (G1.out.on.heap HeM.out ne) (by omega)) (by omega))
  have o4 : Only [w.heap.size, w.heap.size + 1] w3 (((w3.setCell ⟨w.heap.size, 0, none⟩ (.int .i64 v)).setCell ⟨w.heap.size, 0, none⟩ (.int .i64 v)).setCell ⟨w.heap.size + 1, 0, none⟩ (.int .i64 0)) := (((Only.refl _ w3).setCell (.inl (by simp)) _).setCell (.inl (by simp)) _).setCell (.inl (by simp)) _
  generalize ((w3.setCell ⟨w.heap.size, 0, none⟩ (.int .i64 v)).setCell ⟨w.heap.size, 0, none⟩ (.int .i64 v)).setCell ⟨w.heap.size + 1, 0, none⟩ (.int .i64 0) = w4 at *
  have cv4 : w4.cell? ⟨w.heap.size, 0, none⟩ = some (.int .i64 v) := by rw [cells_of f2]; rfl
  have ce4 : w4.cell? ⟨w.heap.size + 1, 0, none⟩ = some (.int .i64 0) := by rw [cells_of f3]; rfl
  have hd4 : DecAt w0 w4 b tb sb d' := G1.out.dec.only o4 (by simp; omega) (by simp; omega) (by simp; omega) (by simp; omega)
  have ho4 : Only [b, sb] w w4 := ((HoM.out.mono (T := [b, sb]) (by simp)).trans' G1.out.on (by simp; omega)).trans' o4 (by simp)
  simp [Leaves, settle, results, Tryz.results246, go_sem, cv4, ce4]
  exact ⟨hd4, ho4⟩

set_option maxRecDepth 100000 in
set_option maxHeartbeats 1600000 in
theorem get_zero {w0 w : World} {b tb sb : Nat} {d d' : Dec} (h : DecAt w0 w b tb sb d) (el inc most : Int) (hk : kindOf el = 3) (i0 : 0 ≤ inc) (i1 : inc ≤ 7) (hg : d.gives (deedsL el inc 0 (greatL 0 9 3 ++ [])) d') (hs : d.s.size ≤ 140737488355328) :
    Calls Tryz.prog 246 #[.pointer (some ⟨b, 0, none⟩), .int .i64 el, .int .i64 inc, .int .i64 most] w fun r w' => r = .returned (.tuple #[.int .i64 0, .int .i64 0]) ∧ DecAt w0 w' b tb sb d' ∧ Only [b, sb] w w' := by
  obtain ⟨e0, e1⟩ := kindOf_el el (by omega)
  have hmf : ∀ (fn : Fn) (first cap : Array Value) (w : World), (Instr.makeFunc fn first cap).run Tryz.prog w = .ok (.func fn first cap) w := fun _ _ _ _ => rfl
  have H := Lib.hid h
  have Hk := Lib.hid hk
  have Hg := Lib.hid hg
  have hlb := lt_of_block h.is.cells
  have hls := lt_of_block h.is.sts
  have hlt := lt_of_block h.is.tab
  clear h hk hg
  go_enter_defers Tryz.func246, Tryz.ntmps246
  go_wp2_with fail
  have ho1 : Only [] w ((w.alloc (.cells #[.int .i64 0] 3)).alloc (.cells #[.int .i64 0] 32)) := ((Only.refl _ w).alloc _).alloc _
  have hv1 : ((w.alloc (.cells #[.int .i64 0] 3)).alloc (.cells #[.int .i64 0] 32)).heap[w.heap.size]? = some (.cells #[.int .i64 0] 3 (0, 0)) := heap_alloc_lt _ (heap_alloc_at w _)
  have he1 : ((w.alloc (.cells #[.int .i64 0] 3)).alloc (.cells #[.int .i64 0] 32)).heap[w.heap.size + 1]? = some (.cells #[.int .i64 0] 32 (0, 0)) := by
    have := heap_alloc_at (w.alloc (.cells #[.int .i64 0] 3)) (.cells #[.int .i64 0] 32)
    simpa using this
  have hs1 : ((w.alloc (.cells #[.int .i64 0] 3)).alloc (.cells #[.int .i64 0] 32)).heap.size = w.heap.size + 1 + 1 := by simp
  generalize (w.alloc (.cells #[.int .i64 0] 3)).alloc (.cells #[.int .i64 0] 32) = wA at *
  have hkk : (wA.alloc (.cells kNew 331)).heap[w.heap.size + 1 + 1]? = some (.cells kNew 331 (0, 0)) := by rw [← hs1]; exact heap_alloc_at wA _
  refine (kinds_get (w.heap.size + 1 + 1) el _ hkk).mono ?_
  rintro r w1 ⟨rfl, g1⟩
  have ho2 : Only [] wA w1 := ((Only.refl [] wA).alloc _).trans' g1 (by simp; omega)
  have Ho2 := Lib.hid (ho1.trans ho2)
  have Hv2 := Lib.hid (ho2.heap hv1 (by simp))
  have He2 := Lib.hid (ho2.heap he1 (by simp))
  have H2 := Lib.hid (H.out.only (ho1.trans ho2) (by simp) (by simp) (by simp) (by simp))
  have hlo2 := ho2.size
  rw [hs1] at hlo2
  clear g1 ho1 ho2 hv1 he1 hs1 hkk
  rw [Hk.out]
  go_wp2_with fail
  refine (dec_keep b tb sb d w1 H2.out.is).mono ?_
  rintro r w2 ⟨⟨k0, k1, k2, k3, rfl⟩, ho3⟩
  have hlo3 := ho3.size
  have Ho3 := Lib.hid (Ho2.out.trans ho3)
  have Hv3 := Lib.hid (ho3.heap Hv2.out (by simp))
  have He3 := Lib.hid (ho3.heap He2.out (by simp))
  have H3 := Lib.hid (H2.out.only ho3 (by simp) (by simp) (by simp) (by simp))
  clear ho3
  go_wp2_with fail
  have hoM : Only [] w2 ((w2.alloc (.cells #[.pointer (some ⟨b, 0, none⟩), .int .i64 k0, .int .i64 k1, .int .i64 k2, .bool k3, .slice none 0 0, .int .i64 el, .int .i64 inc] 344)).alloc (.cells #[.pointer (some ⟨w2.heap.size, 0, none⟩)] 338)) := ((Only.refl _ w2).alloc _).alloc _
  have htk : ((w2.alloc (.cells #[.pointer (some ⟨b, 0, none⟩), .int .i64 k0, .int .i64 k1, .int .i64 k2, .bool k3, .slice none 0 0, .int .i64 el, .int .i64 inc] 344)).alloc (.cells #[.pointer (some ⟨w2.heap.size, 0, none⟩)] 338)).heap[w2.heap.size]? = some (.cells #[.pointer (some ⟨b, 0, none⟩), .int .i64 k0, .int .i64 k1, .int .i64 k2, .bool k3, .slice none 0 0, .int .i64 el, .int .i64 inc] 344 (0, 0)) := heap_alloc_lt _ (heap_alloc_at w2 _)
  have htv : ((w2.alloc (.cells #[.pointer (some ⟨b, 0, none⟩), .int .i64 k0, .int .i64 k1, .int .i64 k2, .bool k3, .slice none 0 0, .int .i64 el, .int .i64 inc] 344)).alloc (.cells #[.pointer (some ⟨w2.heap.size, 0, none⟩)] 338)).heap[w2.heap.size + 1]? = some (.cells #[.pointer (some ⟨w2.heap.size, 0, none⟩)] 338 (0, 0)) := by
    have := heap_alloc_at (w2.alloc (.cells #[.pointer (some ⟨b, 0, none⟩), .int .i64 k0, .int .i64 k1, .int .i64 k2, .bool k3, .slice none 0 0, .int .i64 el, .int .i64 inc] 344)) (.cells #[.pointer (some ⟨w2.heap.size, 0, none⟩)] 338)
    simpa using this
  have hsM : ((w2.alloc (.cells #[.pointer (some ⟨b, 0, none⟩), .int .i64 k0, .int .i64 k1, .int .i64 k2, .bool k3, .slice none 0 0, .int .i64 el, .int .i64 inc] 344)).alloc (.cells #[.pointer (some ⟨w2.heap.size, 0, none⟩)] 338)).heap.size = w2.heap.size + 1 + 1 := by simp
  generalize ((w2.alloc (.cells #[.pointer (some ⟨b, 0, none⟩), .int .i64 k0, .int .i64 k1, .int .i64 k2, .bool k3, .slice none 0 0, .int .i64 el, .int .i64 inc] 344)).alloc (.cells #[.pointer (some ⟨w2.heap.size, 0, none⟩)] 338)) = wM at *
  obtain ⟨tk, htkd⟩ : ∃ t, t = w2.heap.size := ⟨_, rfl⟩
  rw [← htkd] at htk htv hsM hlo3 ⊢
  clear htkd
  have hz0 := H.out.on.size
  have HoM := Lib.hid (Ho3.out.trans hoM)
  have HvM := Lib.hid (hoM.heap Hv3.out (by simp))
  have HeM := Lib.hid (hoM.heap He3.out (by simp))
  have T := Lib.hid (show TakeAt w0 wM wM b tb sb tk (.slice none 0 0) 0 el inc (.int .i64 k0) (.int .i64 k1) (.int .i64 k2) (.bool k3) d from
    ⟨H3.out.only hoM (by simp) (by simp) (by simp) (by simp), htk, ⟨[], World.ownsRow_nil _ _ _ _⟩, Only.refl _ _, by omega, by omega, by omega, by omega, by omega⟩)
  have Htv := Lib.hid htv
  have nv : w.heap.size ∉ [b, sb, tk] := by simp; omega
  have ne : w.heap.size + 1 ∉ [b, sb, tk] := by simp; omega
  have nt : tk + 1 ∉ [b, sb, tk] := by simp; omega
  clear hoM htk htv Ho2 Hv2 He2 H2 Ho3 Hv3 He3 H3
  refine (take_great 0 9 3 32767 [] T.out (by omega) (by omega) (by omega) (by omega) (by omega) Hg.out hs e0 e1 i0 i1).mono ?_
  rintro r w3 ⟨rfl, sv, n1, d1, g1, g2, -⟩
  obtain rfl : d' = d1 := g2
  have G1 := Lib.hid g1
  clear g1
  have cv := cells_of (G1.out.on.heap HvM.out nv) 0
  have zv := free_of (G1.out.on.heap HvM.out nv) 0
  have ce := cells_of (G1.out.on.heap HeM.out ne) 0
  have ze := free_of (G1.out.on.heap HeM.out ne) 0
  have ct := cells_of (G1.out.on.heap Htv.out nt) 0
  go_wp2
  refine leaves_cons (f := 249) (args := #[.pointer (some ⟨tk + 1, 0, none⟩), .pointer (some ⟨w.heap.size, 0, none⟩), .pointer (some ⟨w.heap.size + 1, 0, none⟩)]) (by simp) (by simp [go_sem]) ?_
  refine (get_idle _ _ _ _).mono ?_
  rintro e u' w'' ⟨rfl, rfl, rfl⟩
  have f0 := heap_set_same (i := 0) (.int .i64 0) (G1.out.on.heap HvM.out nv)
  have f1 := heap_set_same (i := 0) (.int .i64 0) f0
  have f2 := heap_set_other (b := w.heap.size + 1) (i := 0) (.int .i64 0) f1 (by omega)
  have f3 := heap_set_same (i := 0) (.int .i64 0) (heap_set_other (b := w.heap.size) (i := 0) (.int .i64 0) (heap_set_other (b := w.heap.size) (i := 0) (.int .i64 0) (G1.out.on.heap HeM.out ne) (by omega)) (by omega))
  have o4 : Only [w.heap.size, w.heap.size + 1] w3 (((w3.setCell ⟨w.heap.size, 0, none⟩ (.int .i64 0)).setCell ⟨w.heap.size, 0, none⟩ (.int .i64 0)).setCell ⟨w.heap.size + 1, 0, none⟩ (.int .i64 0)) := (((Only.refl _ w3).setCell (.inl (by simp)) _).setCell (.inl (by simp)) _).setCell (.inl (by simp)) _
  generalize ((w3.setCell ⟨w.heap.size, 0, none⟩ (.int .i64 0)).setCell ⟨w.heap.size, 0, none⟩ (.int .i64 0)).setCell ⟨w.heap.size + 1, 0, none⟩ (.int .i64 0) = w4 at *
  have cv4 : w4.cell? ⟨w.heap.size, 0, none⟩ = some (.int .i64 0) := by rw [cells_of f2]; rfl
  have ce4 : w4.cell? ⟨w.heap.size + 1, 0, none⟩ = some (.int .i64 0) := by rw [cells_of f3]; rfl
  have hd4 : DecAt w0 w4 b tb sb d' := G1.out.dec.only o4 (by simp; omega) (by simp; omega) (by simp; omega) (by simp; omega)
  have ho4 : Only [b, sb] w w4 := ((HoM.out.mono (T := [b, sb]) (by simp)).trans' G1.out.on (by simp; omega)).trans' o4 (by simp)
  simp [Leaves, settle, results, Tryz.results246, go_sem, cv4, ce4]
  exact ⟨hd4, ho4⟩

set_option maxRecDepth 100000 in
set_option maxHeartbeats 1600000 in
theorem get_pos {w0 w : World} {b tb sb : Nat} {d d' : Dec} (h : DecAt w0 w b tb sb d) (el inc most : Int) (m : Nat) (hk : kindOf el = 3) (hm0 : 1 ≤ m) (hvl : m ≤ 32767) (i0 : 0 ≤ inc) (i1 : inc ≤ 7) (hg : d.gives (deedsL el inc 0 (greatL m 9 3 ++ [97])) d') (hs : d.s.size ≤ 140737488355328) :
    Calls Tryz.prog 246 #[.pointer (some ⟨b, 0, none⟩), .int .i64 el, .int .i64 inc, .int .i64 most] w fun r w' => r = .returned (.tuple #[.int .i64 ((m : Int)), .int .i64 0]) ∧ DecAt w0 w' b tb sb d' ∧ Only [b, sb] w w' := by
  obtain ⟨e0, e1⟩ := kindOf_el el (by omega)
  have hmf : ∀ (fn : Fn) (first cap : Array Value) (w : World), (Instr.makeFunc fn first cap).run Tryz.prog w = .ok (.func fn first cap) w := fun _ _ _ _ => rfl
  have H := Lib.hid h
  have Hk := Lib.hid hk
  have Hg := Lib.hid hg
  have hlb := lt_of_block h.is.cells
  have hls := lt_of_block h.is.sts
  have hlt := lt_of_block h.is.tab
  clear h hk hg
  go_enter_defers Tryz.func246, Tryz.ntmps246
  go_wp2_with fail
  have ho1 : Only [] w ((w.alloc (.cells #[.int .i64 0] 3)).alloc (.cells #[.int .i64 0] 32)) := ((Only.refl _ w).alloc _).alloc _
  have hv1 : ((w.alloc (.cells #[.int .i64 0] 3)).alloc (.cells #[.int .i64 0] 32)).heap[w.heap.size]? = some (.cells #[.int .i64 0] 3 (0, 0)) := heap_alloc_lt _ (heap_alloc_at w _)
  have he1 : ((w.alloc (.cells #[.int .i64 0] 3)).alloc (.cells #[.int .i64 0] 32)).heap[w.heap.size + 1]? = some (.cells #[.int .i64 0] 32 (0, 0)) := by
    have := heap_alloc_at (w.alloc (.cells #[.int .i64 0] 3)) (.cells #[.int .i64 0] 32)
    simpa using this
  have hs1 : ((w.alloc (.cells #[.int .i64 0] 3)).alloc (.cells #[.int .i64 0] 32)).heap.size = w.heap.size + 1 + 1 := by simp
  generalize (w.alloc (.cells #[.int .i64 0] 3)).alloc (.cells #[.int .i64 0] 32) = wA at *
  have hkk : (wA.alloc (.cells kNew 331)).heap[w.heap.size + 1 + 1]? = some (.cells kNew 331 (0, 0)) := by rw [← hs1]; exact heap_alloc_at wA _
  refine (kinds_get (w.heap.size + 1 + 1) el _ hkk).mono ?_
  rintro r w1 ⟨rfl, g1⟩
  have ho2 : Only [] wA w1 := ((Only.refl [] wA).alloc _).trans' g1 (by simp; omega)
  have Ho2 := Lib.hid (ho1.trans ho2)
  have Hv2 := Lib.hid (ho2.heap hv1 (by simp))
  have He2 := Lib.hid (ho2.heap he1 (by simp))
  have H2 := Lib.hid (H.out.only (ho1.trans ho2) (by simp) (by simp) (by simp) (by simp))
  have hlo2 := ho2.size
  rw [hs1] at hlo2
  clear g1 ho1 ho2 hv1 he1 hs1 hkk
  rw [Hk.out]
  go_wp2_with fail
  refine (dec_keep b tb sb d w1 H2.out.is).mono ?_
  rintro r w2 ⟨⟨k0, k1, k2, k3, rfl⟩, ho3⟩
  have hlo3 := ho3.size
  have Ho3 := Lib.hid (Ho2.out.trans ho3)
  have Hv3 := Lib.hid (ho3.heap Hv2.out (by simp))
  have He3 := Lib.hid (ho3.heap He2.out (by simp))
  have H3 := Lib.hid (H2.out.only ho3 (by simp) (by simp) (by simp) (by simp))
  clear ho3
  go_wp2_with fail
  have hoM : Only [] w2 ((w2.alloc (.cells #[.pointer (some ⟨b, 0, none⟩), .int .i64 k0, .int .i64 k1, .int .i64 k2, .bool k3, .slice none 0 0, .int .i64 el, .int .i64 inc] 344)).alloc (.cells #[.pointer (some ⟨w2.heap.size, 0, none⟩)] 338)) := ((Only.refl _ w2).alloc _).alloc _
  have htk : ((w2.alloc (.cells #[.pointer (some ⟨b, 0, none⟩), .int .i64 k0, .int .i64 k1, .int .i64 k2, .bool k3, .slice none 0 0, .int .i64 el, .int .i64 inc] 344)).alloc (.cells #[.pointer (some ⟨w2.heap.size, 0, none⟩)] 338)).heap[w2.heap.size]? = some (.cells #[.pointer (some ⟨b, 0, none⟩), .int .i64 k0, .int .i64 k1, .int .i64 k2, .bool k3, .slice none 0 0, .int .i64 el, .int .i64 inc] 344 (0, 0)) := heap_alloc_lt _ (heap_alloc_at w2 _)
  have htv : ((w2.alloc (.cells #[.pointer (some ⟨b, 0, none⟩), .int .i64 k0, .int .i64 k1, .int .i64 k2, .bool k3, .slice none 0 0, .int .i64 el, .int .i64 inc] 344)).alloc (.cells #[.pointer (some ⟨w2.heap.size, 0, none⟩)] 338)).heap[w2.heap.size + 1]? = some (.cells #[.pointer (some ⟨w2.heap.size, 0, none⟩)] 338 (0, 0)) := by
    have := heap_alloc_at (w2.alloc (.cells #[.pointer (some ⟨b, 0, none⟩), .int .i64 k0, .int .i64 k1, .int .i64 k2, .bool k3, .slice none 0 0, .int .i64 el, .int .i64 inc] 344)) (.cells #[.pointer (some ⟨w2.heap.size, 0, none⟩)] 338)
    simpa using this
  have hsM : ((w2.alloc (.cells #[.pointer (some ⟨b, 0, none⟩), .int .i64 k0, .int .i64 k1, .int .i64 k2, .bool k3, .slice none 0 0, .int .i64 el, .int .i64 inc] 344)).alloc (.cells #[.pointer (some ⟨w2.heap.size, 0, none⟩)] 338)).heap.size = w2.heap.size + 1 + 1 := by simp
  generalize ((w2.alloc (.cells #[.pointer (some ⟨b, 0, none⟩), .int .i64 k0, .int .i64 k1, .int .i64 k2, .bool k3, .slice none 0 0, .int .i64 el, .int .i64 inc] 344)).alloc (.cells #[.pointer (some ⟨w2.heap.size, 0, none⟩)] 338)) = wM at *
  obtain ⟨tk, htkd⟩ : ∃ t, t = w2.heap.size := ⟨_, rfl⟩
  rw [← htkd] at htk htv hsM hlo3 ⊢
  clear htkd
  have hz0 := H.out.on.size
  have HoM := Lib.hid (Ho3.out.trans hoM)
  have HvM := Lib.hid (hoM.heap Hv3.out (by simp))
  have HeM := Lib.hid (hoM.heap He3.out (by simp))
  have T := Lib.hid (show TakeAt w0 wM wM b tb sb tk (.slice none 0 0) 0 el inc (.int .i64 k0) (.int .i64 k1) (.int .i64 k2) (.bool k3) d from
    ⟨H3.out.only hoM (by simp) (by simp) (by simp) (by simp), htk, ⟨[], World.ownsRow_nil _ _ _ _⟩, Only.refl _ _, by omega, by omega, by omega, by omega, by omega⟩)
  have Htv := Lib.hid htv
  have nv : w.heap.size ∉ [b, sb, tk] := by simp; omega
  have ne : w.heap.size + 1 ∉ [b, sb, tk] := by simp; omega
  have nt : tk + 1 ∉ [b, sb, tk] := by simp; omega
  clear hoM htk htv Ho2 Hv2 He2 H2 Ho3 Hv3 He3 H3
  refine (take_great m 9 3 32767 [97] T.out (by omega) (by omega) (by omega) (by omega) (by omega) Hg.out hs e0 e1 i0 i1).mono ?_
  rintro r w3 ⟨rfl, sv, n1, d1, g1, g2, g3⟩
  obtain ⟨d2, q1, q2, q3⟩ := gives_by (by omega) g2
  obtain rfl : d' = d2 := q3
  have Q1 := Lib.hid (show d1.bypass = (0, 0, d') from q1)
  have hs1 : Hid (d1.s.size ≤ 140737488355328) := Lib.hid (by rw [g3]; exact hs)
  have G1 := Lib.hid g1
  clear g1 g2 g3 q1 q2
  have cv := cells_of (G1.out.on.heap HvM.out nv) 0
  have zv := free_of (G1.out.on.heap HvM.out nv) 0
  have ce := cells_of (G1.out.on.heap HeM.out ne) 0
  have ze := free_of (G1.out.on.heap HeM.out ne) 0
  have ct := cells_of (G1.out.on.heap Htv.out nt) 0
  have oV : Only [w.heap.size] w3 (w3.setCell ⟨w.heap.size, 0, none⟩ (.int .i64 m)) := (Only.refl _ w3).setCell (.inl (by simp)) _
  have GV := Lib.hid (G1.out.dec.only oV (by simp; omega) (by simp; omega) (by simp; omega) (by simp; omega))
  have ctk : (w3.setCell ⟨w.heap.size, 0, none⟩ (.int .i64 m)).cell? ⟨tk, 0, none⟩ = some (.pointer (some ⟨b, 0, none⟩)) := by rw [cells_of (oV.heap G1.out.cells (by simp; omega))]; rfl
  have HvV := Lib.hid (heap_set_same (i := 0) (.int .i64 m) (G1.out.on.heap HvM.out nv))
  have HeV := Lib.hid (oV.heap (G1.out.on.heap HeM.out ne) (by simp))
  have HtV := Lib.hid (oV.heap (G1.out.on.heap Htv.out nt) (by simp; omega))
  have Ctk := Lib.hid ctk
  have OV := Lib.hid (((HoM.out.mono (T := [b, sb]) (by simp)).trans' G1.out.on (by simp; omega)).trans' oV (by simp))
  clear ctk oV
  go_wp2_with fail
  refine (take_by0 GV.out Ctk.out Q1.out hs1.out).mono ?_
  rintro r w4 ⟨rfl, g1, g2⟩
  have GX := Lib.hid g1
  have HvX := Lib.hid (g2.heap HvV.out (by simp; omega))
  have HeX := Lib.hid (g2.heap HeV.out (by simp; omega))
  have HtX := Lib.hid (g2.heap HtV.out (by simp; omega))
  have OX := Lib.hid (OV.out.trans g2)
  have cv5 := cells_of HvX.out 0
  have zv5 := free_of HvX.out 0
  have ce5 := cells_of HeX.out 0
  have ze5 := free_of HeX.out 0
  have ct5 := cells_of HtX.out 0
  clear g1 g2 cv zv ce ze ct
  go_wp2
  refine leaves_cons (f := 249) (args := #[.pointer (some ⟨tk + 1, 0, none⟩), .pointer (some ⟨w.heap.size, 0, none⟩), .pointer (some ⟨w.heap.size + 1, 0, none⟩)]) (by simp) (by simp [go_sem]) ?_
  refine (get_idle _ _ _ _).mono ?_
  rintro e u' w'' ⟨rfl, rfl, rfl⟩
  have f1 := heap_set_same (i := 0) (.int .i64 ((m : Int))) HvX.out
  have f2 := heap_set_other (b := w.heap.size + 1) (i := 0) (.int .i64 0) f1 (by omega)
  have f3 := heap_set_same (i := 0) (.int .i64 0) (heap_set_other (b := w.heap.size) (i := 0) (.int .i64 ((m : Int))) HeX.out (by omega))
  have o4 : Only [w.heap.size, w.heap.size + 1] w4 ((w4.setCell ⟨w.heap.size, 0, none⟩ (.int .i64 ((m : Int)))).setCell ⟨w.heap.size + 1, 0, none⟩ (.int .i64 0)) := ((Only.refl _ w4).setCell (.inl (by simp)) _).setCell (.inl (by simp)) _
  generalize (w4.setCell ⟨w.heap.size, 0, none⟩ (.int .i64 ((m : Int)))).setCell ⟨w.heap.size + 1, 0, none⟩ (.int .i64 0) = w5 at *
  have cv4 : w5.cell? ⟨w.heap.size, 0, none⟩ = some (.int .i64 ((m : Int))) := by rw [cells_of f2]; rfl
  have ce4 : w5.cell? ⟨w.heap.size + 1, 0, none⟩ = some (.int .i64 0) := by rw [cells_of f3]; rfl
  have hd4 : DecAt w0 w5 b tb sb d' := GX.out.only o4 (by simp; omega) (by simp; omega) (by simp; omega) (by simp; omega)
  have ho4 : Only [b, sb] w w5 := OX.out.trans' o4 (by simp)
  simp [Leaves, settle, results, Tryz.results246, go_sem, cv4, ce4]
  exact ⟨hd4, ho4⟩

set_option maxRecDepth 100000 in
set_option maxHeartbeats 1600000 in
theorem get_neg {w0 w : World} {b tb sb : Nat} {d d' : Dec} (h : DecAt w0 w b tb sb d) (el inc most : Int) (m : Nat) (hk : kindOf el = 3) (hm0 : 1 ≤ m) (hvl : m ≤ 32767) (i0 : 0 ≤ inc) (i1 : inc ≤ 7) (hg : d.gives (deedsL el inc 0 (greatL m 9 3 ++ [98])) d') (hs : d.s.size ≤ 140737488355328) :
    Calls Tryz.prog 246 #[.pointer (some ⟨b, 0, none⟩), .int .i64 el, .int .i64 inc, .int .i64 most] w fun r w' => r = .returned (.tuple #[.int .i64 (-(m : Int)), .int .i64 0]) ∧ DecAt w0 w' b tb sb d' ∧ Only [b, sb] w w' := by
  obtain ⟨e0, e1⟩ := kindOf_el el (by omega)
  have hmf : ∀ (fn : Fn) (first cap : Array Value) (w : World), (Instr.makeFunc fn first cap).run Tryz.prog w = .ok (.func fn first cap) w := fun _ _ _ _ => rfl
  have H := Lib.hid h
  have Hk := Lib.hid hk
  have Hg := Lib.hid hg
  have hlb := lt_of_block h.is.cells
  have hls := lt_of_block h.is.sts
  have hlt := lt_of_block h.is.tab
  clear h hk hg
  go_enter_defers Tryz.func246, Tryz.ntmps246
  go_wp2_with fail
  have ho1 : Only [] w ((w.alloc (.cells #[.int .i64 0] 3)).alloc (.cells #[.int .i64 0] 32)) := ((Only.refl _ w).alloc _).alloc _
  have hv1 : ((w.alloc (.cells #[.int .i64 0] 3)).alloc (.cells #[.int .i64 0] 32)).heap[w.heap.size]? = some (.cells #[.int .i64 0] 3 (0, 0)) := heap_alloc_lt _ (heap_alloc_at w _)
  have he1 : ((w.alloc (.cells #[.int .i64 0] 3)).alloc (.cells #[.int .i64 0] 32)).heap[w.heap.size + 1]? = some (.cells #[.int .i64 0] 32 (0, 0)) := by
    have := heap_alloc_at (w.alloc (.cells #[.int .i64 0] 3)) (.cells #[.int .i64 0] 32)
    simpa using this
  have hs1 : ((w.alloc (.cells #[.int .i64 0] 3)).alloc (.cells #[.int .i64 0] 32)).heap.size = w.heap.size + 1 + 1 := by simp
  generalize (w.alloc (.cells #[.int .i64 0] 3)).alloc (.cells #[.int .i64 0] 32) = wA at *
  have hkk : (wA.alloc (.cells kNew 331)).heap[w.heap.size + 1 + 1]? = some (.cells kNew 331 (0, 0)) := by rw [← hs1]; exact heap_alloc_at wA _
  refine (kinds_get (w.heap.size + 1 + 1) el _ hkk).mono ?_
  rintro r w1 ⟨rfl, g1⟩
  have ho2 : Only [] wA w1 := ((Only.refl [] wA).alloc _).trans' g1 (by simp; omega)
  have Ho2 := Lib.hid (ho1.trans ho2)
  have Hv2 := Lib.hid (ho2.heap hv1 (by simp))
  have He2 := Lib.hid (ho2.heap he1 (by simp))
  have H2 := Lib.hid (H.out.only (ho1.trans ho2) (by simp) (by simp) (by simp) (by simp))
  have hlo2 := ho2.size
  rw [hs1] at hlo2
  clear g1 ho1 ho2 hv1 he1 hs1 hkk
  rw [Hk.out]
  go_wp2_with fail
  refine (dec_keep b tb sb d w1 H2.out.is).mono ?_
  rintro r w2 ⟨⟨k0, k1, k2, k3, rfl⟩, ho3⟩
  have hlo3 := ho3.size
  have Ho3 := Lib.hid (Ho2.out.trans ho3)
  have Hv3 := Lib.hid (ho3.heap Hv2.out (by simp))
  have He3 := Lib.hid (ho3.heap He2.out (by simp))
  have H3 := Lib.hid (H2.out.only ho3 (by simp) (by simp) (by simp) (by simp))
  clear ho3
  go_wp2_with fail
  have hoM : Only [] w2 ((w2.alloc (.cells #[.pointer (some ⟨b, 0, none⟩), .int .i64 k0, .int .i64 k1, .int .i64 k2, .bool k3, .slice none 0 0, .int .i64 el, .int .i64 inc] 344)).alloc (.cells #[.pointer (some ⟨w2.heap.size, 0, none⟩)] 338)) := ((Only.refl _ w2).alloc _).alloc _
  have htk : ((w2.alloc (.cells #[.pointer (some ⟨b, 0, none⟩), .int .i64 k0, .int .i64 k1, .int .i64 k2, .bool k3, .slice none 0 0, .int .i64 el, .int .i64 inc] 344)).alloc (.cells #[.pointer (some ⟨w2.heap.size, 0, none⟩)] 338)).heap[w2.heap.size]? = some (.cells #[.pointer (some ⟨b, 0, none⟩), .int .i64 k0, .int .i64 k1, .int .i64 k2, .bool k3, .slice none 0 0, .int .i64 el, .int .i64 inc] 344 (0, 0)) := heap_alloc_lt _ (heap_alloc_at w2 _)
  have htv : ((w2.alloc (.cells #[.pointer (some ⟨b, 0, none⟩), .int .i64 k0, .int .i64 k1, .int .i64 k2, .bool k3, .slice none 0 0, .int .i64 el, .int .i64 inc] 344)).alloc (.cells #[.pointer (some ⟨w2.heap.size, 0, none⟩)] 338)).heap[w2.heap.size + 1]? = some (.cells #[.pointer (some ⟨w2.heap.size, 0, none⟩)] 338 (0, 0)) := by
    have := heap_alloc_at (w2.alloc (.cells #[.pointer (some ⟨b, 0, none⟩), .int .i64 k0, .int .i64 k1, .int .i64 k2, .bool k3, .slice none 0 0, .int .i64 el, .int .i64 inc] 344)) (.cells #[.pointer (some ⟨w2.heap.size, 0, none⟩)] 338)
    simpa using this
  have hsM : ((w2.alloc (.cells #[.pointer (some ⟨b, 0, none⟩), .int .i64 k0, .int .i64 k1, .int .i64 k2, .bool k3, .slice none 0 0, .int .i64 el, .int .i64 inc] 344)).alloc (.cells #[.pointer (some ⟨w2.heap.size, 0, none⟩)] 338)).heap.size = w2.heap.size + 1 + 1 := by simp
  generalize ((w2.alloc (.cells #[.pointer (some ⟨b, 0, none⟩), .int .i64 k0, .int .i64 k1, .int .i64 k2, .bool k3, .slice none 0 0, .int .i64 el, .int .i64 inc] 344)).alloc (.cells #[.pointer (some ⟨w2.heap.size, 0, none⟩)] 338)) = wM at *
  obtain ⟨tk, htkd⟩ : ∃ t, t = w2.heap.size := ⟨_, rfl⟩
  rw [← htkd] at htk htv hsM hlo3 ⊢
  clear htkd
  have hz0 := H.out.on.size
  have HoM := Lib.hid (Ho3.out.trans hoM)
  have HvM := Lib.hid (hoM.heap Hv3.out (by simp))
  have HeM := Lib.hid (hoM.heap He3.out (by simp))
  have T := Lib.hid (show TakeAt w0 wM wM b tb sb tk (.slice none 0 0) 0 el inc (.int .i64 k0) (.int .i64 k1) (.int .i64 k2) (.bool k3) d from
    ⟨H3.out.only hoM (by simp) (by simp) (by simp) (by simp), htk, ⟨[], World.ownsRow_nil _ _ _ _⟩, Only.refl _ _, by omega, by omega, by omega, by omega, by omega⟩)
  have Htv := Lib.hid htv
  have nv : w.heap.size ∉ [b, sb, tk] := by simp; omega
  have ne : w.heap.size + 1 ∉ [b, sb, tk] := by simp; omega
  have nt : tk + 1 ∉ [b, sb, tk] := by simp; omega
  clear hoM htk htv Ho2 Hv2 He2 H2 Ho3 Hv3 He3 H3
  refine (take_great m 9 3 32767 [98] T.out (by omega) (by omega) (by omega) (by omega) (by omega) Hg.out hs e0 e1 i0 i1).mono ?_
  rintro r w3 ⟨rfl, sv, n1, d1, g1, g2, g3⟩
  obtain ⟨d2, q1, q2, q3⟩ := gives_by (by omega) g2
  obtain rfl : d' = d2 := q3
  have Q1 := Lib.hid (show d1.bypass = (1, 0, d') from q1)
  have hs1 : Hid (d1.s.size ≤ 140737488355328) := Lib.hid (by rw [g3]; exact hs)
  have G1 := Lib.hid g1
  clear g1 g2 g3 q1 q2
  have cv := cells_of (G1.out.on.heap HvM.out nv) 0
  have zv := free_of (G1.out.on.heap HvM.out nv) 0
  have ce := cells_of (G1.out.on.heap HeM.out ne) 0
  have ze := free_of (G1.out.on.heap HeM.out ne) 0
  have ct := cells_of (G1.out.on.heap Htv.out nt) 0
  have oV : Only [w.heap.size] w3 (w3.setCell ⟨w.heap.size, 0, none⟩ (.int .i64 m)) := (Only.refl _ w3).setCell (.inl (by simp)) _
  have GV := Lib.hid (G1.out.dec.only oV (by simp; omega) (by simp; omega) (by simp; omega) (by simp; omega))
  have ctk : (w3.setCell ⟨w.heap.size, 0, none⟩ (.int .i64 m)).cell? ⟨tk, 0, none⟩ = some (.pointer (some ⟨b, 0, none⟩)) := by rw [cells_of (oV.heap G1.out.cells (by simp; omega))]; rfl
  have HvV := Lib.hid (heap_set_same (i := 0) (.int .i64 m) (G1.out.on.heap HvM.out nv))
  have HeV := Lib.hid (oV.heap (G1.out.on.heap HeM.out ne) (by simp))
  have HtV := Lib.hid (oV.heap (G1.out.on.heap Htv.out nt) (by simp; omega))
  have Ctk := Lib.hid ctk
  have OV := Lib.hid (((HoM.out.mono (T := [b, sb]) (by simp)).trans' G1.out.on (by simp; omega)).trans' oV (by simp))
  clear ctk oV
  go_wp2_with fail
  refine (take_by0 GV.out Ctk.out Q1.out hs1.out).mono ?_
  rintro r w4 ⟨rfl, g1, g2⟩
  have GX := Lib.hid g1
  have HvX := Lib.hid (g2.heap HvV.out (by simp; omega))
  have HeX := Lib.hid (g2.heap HeV.out (by simp; omega))
  have HtX := Lib.hid (g2.heap HtV.out (by simp; omega))
  have OX := Lib.hid (OV.out.trans g2)
  have cv5 := cells_of HvX.out 0
  have zv5 := free_of HvX.out 0
  have ce5 := cells_of HeX.out 0
  have ze5 := free_of HeX.out 0
  have ct5 := cells_of HtX.out 0
  clear g1 g2 cv zv ce ze ct
  go_wp2
  refine leaves_cons (f := 249) (args := #[.pointer (some ⟨tk + 1, 0, none⟩), .pointer (some ⟨w.heap.size, 0, none⟩), .pointer (some ⟨w.heap.size + 1, 0, none⟩)]) (by simp) (by simp [go_sem]) ?_
  refine (get_idle _ _ _ _).mono ?_
  rintro e u' w'' ⟨rfl, rfl, rfl⟩
  have f1 := heap_set_same (i := 0) (.int .i64 (-(m : Int))) HvX.out
  have f1 := heap_set_same (i := 0) (.int .i64 (-(m : Int))) f1
  have f2 := heap_set_other (b := w.heap.size + 1) (i := 0) (.int .i64 0) f1 (by omega)
  have f3 := heap_set_same (i := 0) (.int .i64 0) (heap_set_other (b := w.heap.size) (i := 0) (.int .i64 (-(m : Int))) (heap_set_other (b := w.heap.size) (i := 0) (.int .i64 (-(m : Int))) HeX.out (by omega)) (by omega))
  have o4 : Only [w.heap.size, w.heap.size + 1] w4 (((w4.setCell ⟨w.heap.size, 0, none⟩ (.int .i64 (-(m : Int)))).setCell ⟨w.heap.size, 0, none⟩ (.int .i64 (-(m : Int)))).setCell ⟨w.heap.size + 1, 0, none⟩ (.int .i64 0)) := (((Only.refl _ w4).setCell (.inl (by simp)) _).setCell (.inl (by simp)) _).setCell (.inl (by simp)) _
  generalize ((w4.setCell ⟨w.heap.size, 0, none⟩ (.int .i64 (-(m : Int)))).setCell ⟨w.heap.size, 0, none⟩ (.int .i64 (-(m : Int)))).setCell ⟨w.heap.size + 1, 0, none⟩ (.int .i64 0) = w5 at *
  have cv4 : w5.cell? ⟨w.heap.size, 0, none⟩ = some (.int .i64 (-(m : Int))) := by rw [cells_of f2]; rfl
  have ce4 : w5.cell? ⟨w.heap.size + 1, 0, none⟩ = some (.int .i64 0) := by rw [cells_of f3]; rfl
  have hd4 : DecAt w0 w5 b tb sb d' := GX.out.only o4 (by simp; omega) (by simp; omega) (by simp; omega) (by simp; omega)
  have ho4 : Only [b, sb] w w5 := OX.out.trans' o4 (by simp)
  simp [Leaves, settle, results, Tryz.results246, go_sem, cv4, ce4]
  exact ⟨hd4, ho4⟩

/-- Get, where the decoder gives the element's bins. -/
theorem bins_get {w0 w : World} {b tb sb : Nat} {d d' : Dec} (h : DecAt w0 w b tb sb d) (el inc v most : Int) (hc : bitsE el v most = 0) (i0 : 0 ≤ inc) (i1 : inc ≤ 7) (hg : d.gives (elemDeeds el inc v most) d') (hs : d.s.size ≤ 140737488355328) :
    Calls Tryz.prog 246 #[.pointer (some ⟨b, 0, none⟩), .int .i64 el, .int .i64 inc, .int .i64 most] w fun r w' => r = .returned (.tuple #[.int .i64 v, .int .i64 0]) ∧ DecAt w0 w' b tb sb d' ∧ Only [b, sb] w w' := by
  obtain ⟨e0, e1, hm⟩ := bitsE_el el v most hc
  obtain ⟨r0, r1⟩ := kindOf_range el
  unfold elemDeeds bitsL at hg
  rw [if_pos hm] at hg
  have h0 : kindOf el ≠ 0 := by intro e; rw [e] at hm; simp [mayOf] at hm
  rcases (show kindOf el = 1 ∨ kindOf el = 2 ∨ kindOf el = 3 ∨ kindOf el = 4 by omega) with hk | hk | hk | hk
  · rw [hk] at hg hm
    have hv : v = 0 ∨ v = 1 := by simpa [mayOf] using hm
    exact get_flag h el inc v most hk hv i0 i1 hg hs
  · rw [hk] at hg hm
    have hv : 1 ≤ most ∧ most ≤ 63 ∧ 0 ≤ v ∧ v ≤ most := by simpa [mayOf] using hm
    obtain ⟨m, rfl⟩ := Int.eq_ofNat_of_zero_le (show 0 ≤ most by omega)
    obtain ⟨x, rfl⟩ := Int.eq_ofNat_of_zero_le (show 0 ≤ v by omega)
    exact get_short h el inc x m hk (by omega) (by omega) (by omega) i0 i1 (by simpa [rawL] using hg) hs
  · rw [hk] at hg hm
    have hv : -32767 ≤ v ∧ v ≤ 32767 := by simpa [mayOf] using hm
    have hraw : rawL 3 v most = greatL v.natAbs 9 3 ++ signL v := rfl
    rw [hraw] at hg
    rcases (show v = 0 ∨ 0 < v ∨ v < 0 by omega) with rfl | hp | hn
    · exact get_zero h el inc most hk i0 i1 hg hs
    · obtain ⟨m, rfl⟩ := Int.eq_ofNat_of_zero_le (show 0 ≤ v by omega)
      have hsg : signL (m : Int) = [97] := by unfold signL; rw [if_pos hp]
      rw [hsg, Int.natAbs_natCast] at hg
      exact get_pos h el inc most m hk (by omega) (by omega) i0 i1 hg hs
    · obtain ⟨m, hm2⟩ := Int.eq_ofNat_of_zero_le (show 0 ≤ -v by omega)
      obtain rfl : v = -(m : Int) := by omega
      have hsg : signL (-(m : Int)) = [98] := by unfold signL; rw [if_neg (by omega), if_pos hn]
      rw [hsg, Int.natAbs_neg, Int.natAbs_natCast] at hg
      exact get_neg h el inc most m hk (by omega) (by omega) i0 i1 hg hs
  · rw [hk] at hg hm
    have hv : 0 ≤ v ∧ v ≤ 65535 := by simpa [mayOf] using hm
    obtain ⟨m, rfl⟩ := Int.eq_ofNat_of_zero_le hv.1
    exact get_great h el inc most m hk (by omega) i0 i1 (by simpa [rawL] using hg) hs
end Go.Proofs.YtcppbdlmcbjmeaaGreatDoor
