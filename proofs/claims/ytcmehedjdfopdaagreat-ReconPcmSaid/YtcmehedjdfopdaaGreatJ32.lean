/-
  The walks over package intra's table of modes.
-/
import Derived.Test.YtcmehedjdfopdaaGreatJ11
import Derived.Test.YtcmehedjdfopdaaGreatJ17
namespace Go.Proofs.YtcmehedjdfopdaaGreat
open Go.RowKit

/-- A function as a value. -/
def fnV (F : Nat) : Value := .func (.func F) #[] #[]
/-- What the modes need, and how they predict. -/
def moL : List Value := [fnV 138, fnV 140, fnV 137, fnV 141, fnV 139, fnV 142, fnV 138, fnV 143, fnV 108, fnV 144, fnV 108, fnV 147, fnV 108, fnV 148, fnV 138, fnV 149, fnV 137, fnV 150]
def moTo (j : Nat) : List Value := moL.take j ++ List.replicate (18 - j) .nilFunc
theorem mo_size (a b : Value) (j : Nat) (hj : j ≤ 18) : (onceCells a b (moTo j)).size = 21 := by
  have hl : moL.length = 18 := rfl
  simp [onceCells, moTo, hl]
  omega

set_option maxRecDepth 100000 in
set_option maxHeartbeats 3200000 in
theorem mo_fill (bx tb : Nat) (w : World) (hx : w.heap[bx]? = some (.cells #[.pointer (some ⟨tb, 0, none⟩)] 211 (0, 0)))
    (hb : w.heap[tb]? = some (.cells (onceCells (.int .u32 0) (.int .i32 1) (moTo 0)) 210 (0, 0))) :
    Calls Tryz.prog 136 #[.pointer (some ⟨bx, 0, none⟩)] w fun e w'' => e = .returned (.tuple #[]) ∧ w''.heap[tb]? = some (.cells (onceCells (.int .u32 0) (.int .i32 1) moL) 210 (0, 0)) ∧ Only [tb] w w'' := by
  have c0 : w.cell? ⟨bx, 0, none⟩ = some (.pointer (some ⟨tb, 0, none⟩)) := by rw [cells_of hx]; rfl
  have hne : bx ≠ tb := block_ne hx hb (by decide)
  have W0 := Lib.hid hb
  have O0 : Hid (Only [tb] w w) := Lib.hid (Only.refl _ w)
  clear hb hx
  go_enter Tryz.func136, Tryz.ntmps136
  go_wp2_with (refine wpList_store_part rfl _ _ _ rfl tb 3 #[fnV 138, fnV 140] rfl rfl W0.out (by kernel_rfl) (by rw [mo_size _ _ _ (by decide)]; decide) (by simp [fnV, Value.oneCell']) ?_)
  intro w1 hw ho
  have W1 := Lib.hid (show w1.heap[tb]? = some (.cells (onceCells (.int .u32 0) (.int .i32 1) (moTo 2)) 210 (0, 0)) by rw [hw]; rfl)
  have O1 := Lib.hid (O0.out.trans ho)
  have c1 : w1.cell? ⟨bx, 0, none⟩ = some (.pointer (some ⟨tb, 0, none⟩)) := ho.cell c0 (by simpa using hne)
  clear hw ho c0 W0 O0
  go_wp2_with (refine wpList_store_part rfl _ _ _ rfl tb 5 #[fnV 137, fnV 141] rfl rfl W1.out (by kernel_rfl) (by rw [mo_size _ _ _ (by decide)]; decide) (by simp [fnV, Value.oneCell']) ?_)
  intro w2 hw ho
  have W2 := Lib.hid (show w2.heap[tb]? = some (.cells (onceCells (.int .u32 0) (.int .i32 1) (moTo 4)) 210 (0, 0)) by rw [hw]; rfl)
  have O2 := Lib.hid (O1.out.trans ho)
  have c2 : w2.cell? ⟨bx, 0, none⟩ = some (.pointer (some ⟨tb, 0, none⟩)) := ho.cell c1 (by simpa using hne)
  clear hw ho c1 W1 O1
  go_wp2_with (refine wpList_store_part rfl _ _ _ rfl tb 7 #[fnV 139, fnV 142] rfl rfl W2.out (by kernel_rfl) (by rw [mo_size _ _ _ (by decide)]; decide) (by simp [fnV, Value.oneCell']) ?_)
  intro w3 hw ho
  have W3 := Lib.hid (show w3.heap[tb]? = some (.cells (onceCells (.int .u32 0) (.int .i32 1) (moTo 6)) 210 (0, 0)) by rw [hw]; rfl)
  have O3 := Lib.hid (O2.out.trans ho)
  have c3 : w3.cell? ⟨bx, 0, none⟩ = some (.pointer (some ⟨tb, 0, none⟩)) := ho.cell c2 (by simpa using hne)
  clear hw ho c2 W2 O2
  go_wp2_with (refine wpList_store_part rfl _ _ _ rfl tb 9 #[fnV 138, fnV 143] rfl rfl W3.out (by kernel_rfl) (by rw [mo_size _ _ _ (by decide)]; decide) (by simp [fnV, Value.oneCell']) ?_)
  intro w4 hw ho
  have W4 := Lib.hid (show w4.heap[tb]? = some (.cells (onceCells (.int .u32 0) (.int .i32 1) (moTo 8)) 210 (0, 0)) by rw [hw]; rfl)
  have O4 := Lib.hid (O3.out.trans ho)
  have c4 : w4.cell? ⟨bx, 0, none⟩ = some (.pointer (some ⟨tb, 0, none⟩)) := ho.cell c3 (by simpa using hne)
  clear hw ho c3 W3 O3
  go_wp2_with (refine wpList_store_part rfl _ _ _ rfl tb 11 #[fnV 108, fnV 144] rfl rfl W4.out (by kernel_rfl) (by rw [mo_size _ _ _ (by decide)]; decide) (by simp [fnV, Value.oneCell']) ?_)
  intro w5 hw ho
  have W5 := Lib.hid (show w5.heap[tb]? = some (.cells (onceCells (.int .u32 0) (.int .i32 1) (moTo 10)) 210 (0, 0)) by rw [hw]; rfl)
  have O5 := Lib.hid (O4.out.trans ho)
  have c5 : w5.cell? ⟨bx, 0, none⟩ = some (.pointer (some ⟨tb, 0, none⟩)) := ho.cell c4 (by simpa using hne)
  clear hw ho c4 W4 O4
  go_wp2_with (refine wpList_store_part rfl _ _ _ rfl tb 13 #[fnV 108, fnV 147] rfl rfl W5.out (by kernel_rfl) (by rw [mo_size _ _ _ (by decide)]; decide) (by simp [fnV, Value.oneCell']) ?_)
  intro w6 hw ho
  have W6 := Lib.hid (show w6.heap[tb]? = some (.cells (onceCells (.int .u32 0) (.int .i32 1) (moTo 12)) 210 (0, 0)) by rw [hw]; rfl)
  have O6 := Lib.hid (O5.out.trans ho)
  have c6 : w6.cell? ⟨bx, 0, none⟩ = some (.pointer (some ⟨tb, 0, none⟩)) := ho.cell c5 (by simpa using hne)
  clear hw ho c5 W5 O5
  go_wp2_with (refine wpList_store_part rfl _ _ _ rfl tb 15 #[fnV 108, fnV 148] rfl rfl W6.out (by kernel_rfl) (by rw [mo_size _ _ _ (by decide)]; decide) (by simp [fnV, Value.oneCell']) ?_)
  intro w7 hw ho
  have W7 := Lib.hid (show w7.heap[tb]? = some (.cells (onceCells (.int .u32 0) (.int .i32 1) (moTo 14)) 210 (0, 0)) by rw [hw]; rfl)
  have O7 := Lib.hid (O6.out.trans ho)
  have c7 : w7.cell? ⟨bx, 0, none⟩ = some (.pointer (some ⟨tb, 0, none⟩)) := ho.cell c6 (by simpa using hne)
  clear hw ho c6 W6 O6
  go_wp2_with (refine wpList_store_part rfl _ _ _ rfl tb 17 #[fnV 138, fnV 149] rfl rfl W7.out (by kernel_rfl) (by rw [mo_size _ _ _ (by decide)]; decide) (by simp [fnV, Value.oneCell']) ?_)
  intro w8 hw ho
  have W8 := Lib.hid (show w8.heap[tb]? = some (.cells (onceCells (.int .u32 0) (.int .i32 1) (moTo 16)) 210 (0, 0)) by rw [hw]; rfl)
  have O8 := Lib.hid (O7.out.trans ho)
  have c8 : w8.cell? ⟨bx, 0, none⟩ = some (.pointer (some ⟨tb, 0, none⟩)) := ho.cell c7 (by simpa using hne)
  clear hw ho c7 W7 O7
  go_wp2_with (refine wpList_store_part rfl _ _ _ rfl tb 19 #[fnV 137, fnV 150] rfl rfl W8.out (by kernel_rfl) (by rw [mo_size _ _ _ (by decide)]; decide) (by simp [fnV, Value.oneCell']) ?_)
  intro w9 hw ho
  have W9 := Lib.hid (show w9.heap[tb]? = some (.cells (onceCells (.int .u32 0) (.int .i32 1) (moTo 18)) 210 (0, 0)) by rw [hw]; rfl)
  have O9 := Lib.hid (O8.out.trans ho)
  have c9 : w9.cell? ⟨bx, 0, none⟩ = some (.pointer (some ⟨tb, 0, none⟩)) := ho.cell c8 (by simpa using hne)
  clear hw ho c8 W8 O8
  go_wp2
  go_end0
  exact ⟨rfl, W9.out, O9.out⟩

set_option maxRecDepth 100000 in
set_option maxHeartbeats 1600000 in
theorem mo_get (tb : Nat) (w : World) (hb : w.heap[tb]? = some (.cells (onceCells (.int .u32 0) (.int .i32 0) (moTo 0)) 210 (0, 0))) :
    Calls Tryz.prog 105 #[.pointer (some ⟨tb, 0, none⟩)] w fun e w' => e = .returned (.pointer (some ⟨tb, 0, none⟩)) ∧ w'.heap[tb]? = some (.cells (onceCells (.int .u32 1) (.int .i32 0) moL) 210 (0, 0)) ∧ Only [tb] w w' := by
  have hlt := lt_of_block hb
  have hmf : ∀ (fn : Fn) (first cap : Array Value) (w : World), (Instr.makeFunc fn first cap).run Tryz.prog w = .ok (.func fn first cap) w := fun _ _ _ _ => rfl
  have hX := heap_alloc_at w (.cells #[.pointer (some ⟨tb, 0, none⟩)] 211)
  have hT := heap_alloc_lt (.cells #[.pointer (some ⟨tb, 0, none⟩)] 211) hb
  have hO : Only [] w (w.alloc (.cells #[.pointer (some ⟨tb, 0, none⟩)] 211)) := (Only.refl [] w).alloc _
  have hdo := once_table 136 #[.pointer (some ⟨w.heap.size, 0, none⟩)] (fun w => run_enter Tryz.func136 (by kernel_rfl) (by kernel_rfl) _ w) _ tb 210 _ moL hT
    (fun w' h1 h2 => mo_fill w.heap.size tb w' (h2.heap hX (by simp; omega)) h1)
  have Hdo := Lib.hid hdo
  have HX := Lib.hid hX
  have HO := Lib.hid hO
  clear hdo hX hT hO hb
  go_enter Tryz.func105, Tryz.ntmps105
  go_wp2_with fail
  refine Hdo.out.mono ?_
  rintro e w1 ⟨rfl, h1, h2⟩
  have W1 := Lib.hid h1
  have c1 : w1.cell? ⟨w.heap.size, 0, none⟩ = some (.pointer (some ⟨tb, 0, none⟩)) := by rw [cells_of (h2.heap HX.out (by simp; omega))]; rfl
  have O1 := Lib.hid ((HO.out.mono (T := [tb]) (by simp)).trans h2)
  clear h1 h2
  go_wp2
  go_ret
  exact ⟨rfl, W1.out, O1.out⟩

/-- What the modes need: the tests of edges. -/
theorem mo_left {w : World} {e : Nat} {a : Option Addr} {n c : Nat} {s2 co : Value} {T : TypeId} (he : w.heap[e]? = some (.cells #[.slice a n c, s2, co] T (0, 0))) (hn : n ≤ 100) :
    Calls Tryz.prog 137 #[.pointer (some ⟨e, 0, none⟩)] w fun r w' => r = .returned (.bool (decide (0 < n))) ∧ w = w' := by
  have c0 : w.cell? ⟨e, 0, none⟩ = some (.slice a n c) := by rw [cells_of he]; rfl
  clear he
  by_cases h0 : n = 0
  · subst h0
    go_enter Tryz.func137, Tryz.ntmps137
    go_wp2
    go_ret
    exact ⟨rfl, rfl⟩
  · have h1 : 0 < n := by omega
    go_enter Tryz.func137, Tryz.ntmps137
    go_wp2
    go_ret
    exact ⟨by simp [h1], rfl⟩
theorem mo_top {w : World} {e : Nat} {a : Option Addr} {n c : Nat} {s1 co : Value} {T : TypeId} (he : w.heap[e]? = some (.cells #[s1, .slice a n c, co] T (0, 0))) (hn : n ≤ 100) :
    Calls Tryz.prog 138 #[.pointer (some ⟨e, 0, none⟩)] w fun r w' => r = .returned (.bool (decide (0 < n))) ∧ w = w' := by
  have c0 : w.cell? ⟨e, 1, none⟩ = some (.slice a n c) := by rw [cells_of he]; rfl
  clear he
  by_cases h0 : n = 0
  · subst h0
    go_enter Tryz.func138, Tryz.ntmps138
    go_wp2
    go_ret
    exact ⟨rfl, rfl⟩
  · have h1 : 0 < n := by omega
    go_enter Tryz.func138, Tryz.ntmps138
    go_wp2
    go_ret
    exact ⟨by simp [h1], rfl⟩
theorem mo_none (v : Value) (w : World) : Calls Tryz.prog 139 #[v] w fun r w' => r = .returned (.bool true) ∧ w = w' := by
  go_enter Tryz.func139, Tryz.ntmps139
  go_wp2
  go_ret
  exact ⟨rfl, rfl⟩
theorem mo_all_no {w : World} {e : Nat} {a : Option Addr} {c : Nat} {s2 co : Value} {T : TypeId} (he : w.heap[e]? = some (.cells #[.slice a 0 c, s2, co] T (0, 0))) :
    Calls Tryz.prog 108 #[.pointer (some ⟨e, 0, none⟩)] w fun r w' => r = .returned (.bool false) ∧ w = w' := by
  have c0 : w.cell? ⟨e, 0, none⟩ = some (.slice a 0 c) := by rw [cells_of he]; rfl
  clear he
  go_enter Tryz.func108, Tryz.ntmps108
  go_wp2
  go_ret
  exact ⟨rfl, rfl⟩

theorem pairA0 (w : World) (a b : Value) (t : TypeId) : ((w.drew).alloc (.cells #[a, b] t)).cell? ⟨w.heap.size, 0, none⟩ = some a := cells_of (heap_alloc_at w.drew _) 0
theorem pairA1 (w : World) (a b : Value) (t : TypeId) : ((w.drew).alloc (.cells #[a, b] t)).cell? ⟨w.heap.size, 1, none⟩ = some b := cells_of (heap_alloc_at w.drew _) 1


set_option maxRecDepth 100000 in
set_option maxHeartbeats 1600000 in
theorem mo_mean {w : World} {g : Nat} {s1 s2 co : Value} {xs ys : List Int} {T : TypeId} (he : w.heap[g]? = some (.cells #[s1, s2, co] T (0, 0))) (h1 : IntSlice w s1 xs) (h2 : IntSlice w s2 ys) (hc2 : CapOk s2) (l1 : xs.length ≤ 100) (l2 : ys.length = 0 ∨ ys.length = 8)
    (x1 : ∀ i, i < xs.length → 0 ≤ xs.getD i 0 ∧ xs.getD i 0 ≤ 255) (x2 : ∀ i, i < ys.length → 0 ≤ ys.getD i 0 ∧ ys.getD i 0 ≤ 255) (vx vy : Value) :
    Calls Tryz.prog 142 #[.pointer (some ⟨g, 0, none⟩), vx, vy] w fun e w' => e = .returned (.int .i64 (meanOf xs (ys.take 4))) ∧ Only [] w w' := by
  have hme := fun (b : Nat) (wx : World) (v2 : Value) (k0 : wx.cell? ⟨b, 0, none⟩ = some s1) (k1 : wx.cell? ⟨b, 1, none⟩ = some v2) (hw : Only [] w wx) (hv : IntSlice w v2 (ys.take 4)) => intra_mean b s1 v2 xs (ys.take 4) wx k0 k1 (h1.on hw) (hv.on hw) l1 (by simp; omega) x1 (fun i hi => by simp only [List.length_take] at hi; rw [show (ys.take 4).getD i 0 = ys.getD i 0 by rw [List.getD_eq_getElem?_getD, List.getElem?_take, if_pos (show i < 4 by omega), ← List.getD_eq_getElem?_getD]]; exact x2 i (by omega))
  obtain ⟨a1, p1, rfl, -⟩ := h1
  obtain ⟨a2, p2, rfl, hv2⟩ := h2
  have hp2 : ys.length ≤ p2 := hc2 _ _ _ rfl
  obtain ⟨m, hm⟩ : ∃ m, m = meanOf xs (ys.take 4) := ⟨_, rfl⟩
  rw [← hm] at hme ⊢
  have s0 : w.cell? ⟨g, 0, none⟩ = some (.slice a1 xs.length p1) := by rw [cells_of he]; rfl
  have s1 : w.cell? ⟨g, 1, none⟩ = some (.slice a2 ys.length p2) := by rw [cells_of he]; rfl
  have hgl := lt_of_block he
  have hv : IntSlice w (.slice a2 (min 4 ys.length) p2) (ys.take 4) := by
    rcases hv2 with rfl | ⟨gg, off, rfl, hc⟩
    · exact ⟨a2, p2, rfl, .inl rfl⟩
    · refine ⟨_, p2, by rw [List.length_take], .inr ⟨gg, off, rfl, fun i hi => ?_⟩⟩
      simp only [List.length_take] at hi
      rw [hc i (by omega), show (ys.take 4).getD i 0 = ys.getD i 0 by rw [List.getD_eq_getElem?_getD, List.getElem?_take, if_pos (show i < 4 by omega), ← List.getD_eq_getElem?_getD]]
  generalize xs.length = n1 at *
  have Hme := Lib.hid hme
  have Hv := Lib.hid hv
  clear hm hme he x1 x2 hc2 hv hv2
  rcases l2 with h8 | h8
  · rw [h8] at s1 hp2 Hv

    clear h8
    go_enter Tryz.func142, Tryz.ntmps142
    go_wp2_with fail
    refine wp_region_L (by kernel_rfl) (fun w' => w'.cell? ⟨g, 0, none⟩ = some (.slice a1 n1 p1) ∧ w'.cell? ⟨g, 1, none⟩ = some (.slice a2 0 p2) ∧ Only [] w w') 17 ?_
    have hS0 : (fun w' => w'.cell? ⟨g, 0, none⟩ = some (.slice a1 n1 p1) ∧ w'.cell? ⟨g, 1, none⟩ = some (.slice a2 0 p2) ∧ Only [] w w') w.drew := ⟨s0, s1, (Only.refl [] w).drew⟩
    refine AnyL.take 0 (v := ?_) rfl (by kernel_rfl) (by kernel_rfl) (by kernel_rfl) (by kernel_rfl) (fun _ _ _ h => h) (by assumption) (Or.inl ⟨by rfl, ?_⟩) ?_
    rotate_left
    · (intro w' hSw; (try dsimp only at hSw); go_simp; try (with_reducible rfl))
    try simp only [Act.put, List.setIfInBounds_toArray, List.set_cons_zero, List.set_cons_succ]
    refine AnyL.take 1 (v := ?_) rfl (by kernel_rfl) (by kernel_rfl) (by kernel_rfl) (by kernel_rfl) (fun _ _ _ h => h) (by assumption) (Or.inl ⟨by rfl, ?_⟩) ?_
    rotate_left
    · (intro w' hSw; (try dsimp only at hSw); go_simp; try (with_reducible rfl))
    try simp only [Act.put, List.setIfInBounds_toArray, List.set_cons_zero, List.set_cons_succ]
    refine AnyL.take 2 (v := ?_) rfl (by kernel_rfl) (by kernel_rfl) (by kernel_rfl) (by kernel_rfl) (fun _ _ _ h => h) (by assumption) (Or.inl ⟨by rfl, ?_⟩) ?_
    rotate_left
    · (intro w' hSw; (try dsimp only at hSw); go_simp; try (with_reducible rfl))
    try simp only [Act.put, List.setIfInBounds_toArray, List.set_cons_zero, List.set_cons_succ]
    refine AnyL.take 3 (v := ?_) rfl (by kernel_rfl) (by kernel_rfl) (by kernel_rfl) (by kernel_rfl) (fun _ _ _ h => h) (by assumption) (Or.inl ⟨by rfl, ?_⟩) ?_
    rotate_left
    · (intro w' hSw; (try dsimp only at hSw); go_simp; try (with_reducible rfl))
    try simp only [Act.put, List.setIfInBounds_toArray, List.set_cons_zero, List.set_cons_succ]
    refine AnyL.take 4 (v := ?_) rfl (by kernel_rfl) (by kernel_rfl) (by kernel_rfl) (by kernel_rfl) (fun _ _ _ h => h) (by assumption) (Or.inl ⟨by rfl, ?_⟩) ?_
    rotate_left
    · (intro w' hSw; (try dsimp only at hSw); go_simp; try (with_reducible rfl))
    try simp only [Act.put, List.setIfInBounds_toArray, List.set_cons_zero, List.set_cons_succ]
    refine AnyL.take 5 (v := ?_) rfl (by kernel_rfl) (by kernel_rfl) (by kernel_rfl) (by kernel_rfl) (fun _ _ _ h => h) (by assumption) (Or.inl ⟨by rfl, ?_⟩) ?_
    rotate_left
    · (intro w' hSw; (try dsimp only at hSw); go_simp; try (with_reducible rfl))
    try simp only [Act.put, List.setIfInBounds_toArray, List.set_cons_zero, List.set_cons_succ]
    refine AnyL.take 6 (v := ?_) rfl (by kernel_rfl) (by kernel_rfl) (by kernel_rfl) (by kernel_rfl) (fun _ _ _ h => h) (by assumption) (Or.inl ⟨by rfl, ?_⟩) ?_
    rotate_left
    · (intro w' hSw; (try dsimp only at hSw); go_simp; try (with_reducible rfl))
    try simp only [Act.put, List.setIfInBounds_toArray, List.set_cons_zero, List.set_cons_succ]
    refine AnyL.take 7 (v := ?_) rfl (by kernel_rfl) (by kernel_rfl) (by kernel_rfl) (by kernel_rfl) (fun _ _ _ h => h) (by assumption) (Or.inl ⟨by rfl, ?_⟩) ?_
    rotate_left
    · (intro w' hSw; (try dsimp only at hSw); go_simp; try (with_reducible rfl))
    try simp only [Act.put, List.setIfInBounds_toArray, List.set_cons_zero, List.set_cons_succ]
    refine AnyL.take 8 (v := ?_) rfl (by kernel_rfl) (by kernel_rfl) (by kernel_rfl) (by kernel_rfl) (fun _ _ _ h => h) (by assumption) (Or.inl ⟨by rfl, ?_⟩) ?_
    rotate_left
    · (intro w' hSw; (try dsimp only at hSw); go_simp; try (with_reducible rfl))
    try simp only [Act.put, List.setIfInBounds_toArray, List.set_cons_zero, List.set_cons_succ]
    refine AnyL.take 9 (v := ?_) rfl (by kernel_rfl) (by kernel_rfl) (by kernel_rfl) (by kernel_rfl) (fun _ _ _ h => h) (by assumption) (Or.inl ⟨by rfl, ?_⟩) ?_
    rotate_left
    · (intro w' hSw; (try dsimp only at hSw); go_simp; try (with_reducible rfl))
    try simp only [Act.put, List.setIfInBounds_toArray, List.set_cons_zero, List.set_cons_succ]
    refine AnyL.take 10 (v := ?_) rfl (by kernel_rfl) (by kernel_rfl) (by kernel_rfl) (by kernel_rfl) (fun _ _ _ h => h) (by assumption) (Or.inl ⟨by rfl, ?_⟩) ?_
    rotate_left
    · (intro w' hSw; (try dsimp only at hSw); go_simp; try (with_reducible rfl))
    try simp only [Act.put, List.setIfInBounds_toArray, List.set_cons_zero, List.set_cons_succ]
    refine AnyL.take 11 (v := ?_) rfl (by kernel_rfl) (by kernel_rfl) (by kernel_rfl) (by kernel_rfl) (fun _ _ _ h => h) (by assumption) (Or.inl ⟨by rfl, ?_⟩) ?_
    rotate_left
    · (intro w' hSw; (try dsimp only at hSw); go_simp; try (with_reducible rfl))
    try simp only [Act.put, List.setIfInBounds_toArray, List.set_cons_zero, List.set_cons_succ]
    refine AnyL.take 12 (v := ?_) rfl (by kernel_rfl) (by kernel_rfl) (by kernel_rfl) (by kernel_rfl) (fun _ _ _ h => h) (by assumption) (Or.inl ⟨by rfl, ?_⟩) ?_
    rotate_left
    · (intro w' hSw; (try dsimp only at hSw); go_simp; try (with_reducible rfl))
    try simp only [Act.put, List.setIfInBounds_toArray, List.set_cons_zero, List.set_cons_succ]
    refine AnyL.take 13 (v := ?_) rfl (by kernel_rfl) (by kernel_rfl) (by kernel_rfl) (by kernel_rfl) (fun _ _ _ h => h) (by assumption) (Or.inl ⟨by rfl, ?_⟩) ?_
    rotate_left
    · (intro w' hSw; (try dsimp only at hSw); go_simp; try (with_reducible rfl))
    try simp only [Act.put, List.setIfInBounds_toArray, List.set_cons_zero, List.set_cons_succ]
    refine AnyL.take 14 (v := ?_) rfl (by kernel_rfl) (by kernel_rfl) (by kernel_rfl) (by kernel_rfl) (fun _ _ _ h => h) (by assumption) (Or.inl ⟨by rfl, ?_⟩) ?_
    rotate_left
    · (intro w' hSw; (try dsimp only at hSw); go_simp; try (with_reducible rfl))
    try simp only [Act.put, List.setIfInBounds_toArray, List.set_cons_zero, List.set_cons_succ]
    obtain ⟨t0, t1, t2⟩ := hS0
    refine AnyL.one 15 (by kernel_rfl) rfl (fun K hK => ?_)
    go_simp
    refine hK _ _ (fun _ => ⟨cell_alloc t0, cell_alloc t1, t2.alloc _⟩) (fun _ => ?_)
    clear hK K
    try simp only [Act.put, List.setIfInBounds_toArray, List.set_cons_zero, List.set_cons_succ]
    refine AnyL.one 16 (by kernel_rfl) rfl (fun K hK => ?_)
    go_simp
    refine (Hme.out _ _ _ (pairA0 w _ _ _) (pairA1 w _ _ _) (t2.alloc _) Hv.out).mono ?_
    rintro e w' ⟨rfl, rfl⟩
    refine hK _ _ (fun _ => ⟨cell_alloc t0, cell_alloc t1, t2.alloc _⟩) (fun _ => ?_)
    clear hK K
    try simp only [Act.put, List.setIfInBounds_toArray, List.set_cons_zero, List.set_cons_succ]
    refine AnyL.one 17 (by kernel_rfl) rfl (fun K hK => ?_)
    go_simp
    refine hK _ _ (fun h => (h rfl).elim) (fun _ => ?_)
    clear hK K
    try simp only [Act.put, List.setIfInBounds_toArray, List.set_cons_zero, List.set_cons_succ]
    refine AnyL.done (by kernel_rfl) ?_ _
    go_wp2_with fail
    go_ret
    exact ⟨rfl, t2.alloc _⟩
  · rw [h8] at s1 hp2 Hv
    have hp4 : (4 : Int) ≤ (p2 : Int) := by omega
    clear h8
    go_enter Tryz.func142, Tryz.ntmps142
    go_wp2_with fail
    refine wp_region_L (by kernel_rfl) (fun w' => w'.cell? ⟨g, 0, none⟩ = some (.slice a1 n1 p1) ∧ w'.cell? ⟨g, 1, none⟩ = some (.slice a2 8 p2) ∧ Only [] w w') 17 ?_
    have hS0 : (fun w' => w'.cell? ⟨g, 0, none⟩ = some (.slice a1 n1 p1) ∧ w'.cell? ⟨g, 1, none⟩ = some (.slice a2 8 p2) ∧ Only [] w w') w.drew := ⟨s0, s1, (Only.refl [] w).drew⟩
    refine AnyL.take 0 (v := ?_) rfl (by kernel_rfl) (by kernel_rfl) (by kernel_rfl) (by kernel_rfl) (fun _ _ _ h => h) (by assumption) (Or.inl ⟨by rfl, ?_⟩) ?_
    rotate_left
    · (intro w' hSw; (try dsimp only at hSw); go_simp; try (with_reducible rfl))
    try simp only [Act.put, List.setIfInBounds_toArray, List.set_cons_zero, List.set_cons_succ]
    refine AnyL.take 1 (v := ?_) rfl (by kernel_rfl) (by kernel_rfl) (by kernel_rfl) (by kernel_rfl) (fun _ _ _ h => h) (by assumption) (Or.inl ⟨by rfl, ?_⟩) ?_
    rotate_left
    · (intro w' hSw; (try dsimp only at hSw); go_simp; try (with_reducible rfl))
    try simp only [Act.put, List.setIfInBounds_toArray, List.set_cons_zero, List.set_cons_succ]
    refine AnyL.take 2 (v := ?_) rfl (by kernel_rfl) (by kernel_rfl) (by kernel_rfl) (by kernel_rfl) (fun _ _ _ h => h) (by assumption) (Or.inl ⟨by rfl, ?_⟩) ?_
    rotate_left
    · (intro w' hSw; (try dsimp only at hSw); go_simp; try (with_reducible rfl))
    try simp only [Act.put, List.setIfInBounds_toArray, List.set_cons_zero, List.set_cons_succ]
    refine AnyL.take 3 (v := ?_) rfl (by kernel_rfl) (by kernel_rfl) (by kernel_rfl) (by kernel_rfl) (fun _ _ _ h => h) (by assumption) (Or.inl ⟨by rfl, ?_⟩) ?_
    rotate_left
    · (intro w' hSw; (try dsimp only at hSw); go_simp; try (with_reducible rfl))
    try simp only [Act.put, List.setIfInBounds_toArray, List.set_cons_zero, List.set_cons_succ]
    refine AnyL.take 4 (v := ?_) rfl (by kernel_rfl) (by kernel_rfl) (by kernel_rfl) (by kernel_rfl) (fun _ _ _ h => h) (by assumption) (Or.inl ⟨by rfl, ?_⟩) ?_
    rotate_left
    · (intro w' hSw; (try dsimp only at hSw); go_simp; try (with_reducible rfl))
    try simp only [Act.put, List.setIfInBounds_toArray, List.set_cons_zero, List.set_cons_succ]
    refine AnyL.take 5 (v := ?_) rfl (by kernel_rfl) (by kernel_rfl) (by kernel_rfl) (by kernel_rfl) (fun _ _ _ h => h) (by assumption) (Or.inl ⟨by rfl, ?_⟩) ?_
    rotate_left
    · (intro w' hSw; (try dsimp only at hSw); go_simp; try (with_reducible rfl))
    try simp only [Act.put, List.setIfInBounds_toArray, List.set_cons_zero, List.set_cons_succ]
    refine AnyL.take 6 (v := ?_) rfl (by kernel_rfl) (by kernel_rfl) (by kernel_rfl) (by kernel_rfl) (fun _ _ _ h => h) (by assumption) (Or.inl ⟨by rfl, ?_⟩) ?_
    rotate_left
    · (intro w' hSw; (try dsimp only at hSw); go_simp; try (with_reducible rfl))
    try simp only [Act.put, List.setIfInBounds_toArray, List.set_cons_zero, List.set_cons_succ]
    refine AnyL.take 7 (v := ?_) rfl (by kernel_rfl) (by kernel_rfl) (by kernel_rfl) (by kernel_rfl) (fun _ _ _ h => h) (by assumption) (Or.inl ⟨by rfl, ?_⟩) ?_
    rotate_left
    · (intro w' hSw; (try dsimp only at hSw); go_simp; try (with_reducible rfl))
    try simp only [Act.put, List.setIfInBounds_toArray, List.set_cons_zero, List.set_cons_succ]
    refine AnyL.take 8 (v := ?_) rfl (by kernel_rfl) (by kernel_rfl) (by kernel_rfl) (by kernel_rfl) (fun _ _ _ h => h) (by assumption) (Or.inl ⟨by rfl, ?_⟩) ?_
    rotate_left
    · (intro w' hSw; (try dsimp only at hSw); go_simp; try (with_reducible rfl))
    try simp only [Act.put, List.setIfInBounds_toArray, List.set_cons_zero, List.set_cons_succ]
    refine AnyL.take 9 (v := ?_) rfl (by kernel_rfl) (by kernel_rfl) (by kernel_rfl) (by kernel_rfl) (fun _ _ _ h => h) (by assumption) (Or.inl ⟨by rfl, ?_⟩) ?_
    rotate_left
    · (intro w' hSw; (try dsimp only at hSw); go_simp; try (with_reducible rfl))
    try simp only [Act.put, List.setIfInBounds_toArray, List.set_cons_zero, List.set_cons_succ]
    refine AnyL.take 10 (v := ?_) rfl (by kernel_rfl) (by kernel_rfl) (by kernel_rfl) (by kernel_rfl) (fun _ _ _ h => h) (by assumption) (Or.inl ⟨by rfl, ?_⟩) ?_
    rotate_left
    · (intro w' hSw; (try dsimp only at hSw); go_simp; try (with_reducible rfl))
    try simp only [Act.put, List.setIfInBounds_toArray, List.set_cons_zero, List.set_cons_succ]
    refine AnyL.take 11 (v := ?_) rfl (by kernel_rfl) (by kernel_rfl) (by kernel_rfl) (by kernel_rfl) (fun _ _ _ h => h) (by assumption) (Or.inl ⟨by rfl, ?_⟩) ?_
    rotate_left
    · (intro w' hSw; (try dsimp only at hSw); go_simp; try (with_reducible rfl))
    try simp only [Act.put, List.setIfInBounds_toArray, List.set_cons_zero, List.set_cons_succ]
    refine AnyL.take 12 (v := ?_) rfl (by kernel_rfl) (by kernel_rfl) (by kernel_rfl) (by kernel_rfl) (fun _ _ _ h => h) (by assumption) (Or.inl ⟨by rfl, ?_⟩) ?_
    rotate_left
    · (intro w' hSw; (try dsimp only at hSw); go_simp; try (with_reducible rfl))
    try simp only [Act.put, List.setIfInBounds_toArray, List.set_cons_zero, List.set_cons_succ]
    refine AnyL.take 13 (v := ?_) rfl (by kernel_rfl) (by kernel_rfl) (by kernel_rfl) (by kernel_rfl) (fun _ _ _ h => h) (by assumption) (Or.inl ⟨by rfl, ?_⟩) ?_
    rotate_left
    · (intro w' hSw; (try dsimp only at hSw); go_simp; try (with_reducible rfl))
    try simp only [Act.put, List.setIfInBounds_toArray, List.set_cons_zero, List.set_cons_succ]
    refine AnyL.take 14 (v := ?_) rfl (by kernel_rfl) (by kernel_rfl) (by kernel_rfl) (by kernel_rfl) (fun _ _ _ h => h) (by assumption) (Or.inl ⟨by rfl, ?_⟩) ?_
    rotate_left
    · (intro w' hSw; (try dsimp only at hSw); go_simp; try (with_reducible rfl))
    try simp only [Act.put, List.setIfInBounds_toArray, List.set_cons_zero, List.set_cons_succ]
    obtain ⟨t0, t1, t2⟩ := hS0
    refine AnyL.one 15 (by kernel_rfl) rfl (fun K hK => ?_)
    go_simp
    refine hK _ _ (fun _ => ⟨cell_alloc t0, cell_alloc t1, t2.alloc _⟩) (fun _ => ?_)
    clear hK K
    try simp only [Act.put, List.setIfInBounds_toArray, List.set_cons_zero, List.set_cons_succ]
    refine AnyL.one 16 (by kernel_rfl) rfl (fun K hK => ?_)
    go_simp
    refine (Hme.out _ _ _ (pairA0 w _ _ _) (pairA1 w _ _ _) (t2.alloc _) Hv.out).mono ?_
    rintro e w' ⟨rfl, rfl⟩
    refine hK _ _ (fun _ => ⟨cell_alloc t0, cell_alloc t1, t2.alloc _⟩) (fun _ => ?_)
    clear hK K
    try simp only [Act.put, List.setIfInBounds_toArray, List.set_cons_zero, List.set_cons_succ]
    refine AnyL.one 17 (by kernel_rfl) rfl (fun K hK => ?_)
    go_simp
    refine hK _ _ (fun h => (h rfl).elim) (fun _ => ?_)
    clear hK K
    try simp only [Act.put, List.setIfInBounds_toArray, List.set_cons_zero, List.set_cons_succ]
    refine AnyL.done (by kernel_rfl) ?_ _
    go_wp2_with fail
    go_ret
    exact ⟨rfl, t2.alloc _⟩
end Go.Proofs.YtcmehedjdfopdaaGreat
