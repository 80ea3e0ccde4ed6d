/-
  The walk over the law's Grey: a grey frame.
-/
import Derived.Test.YtcmehedjdfopdaaGreatJ31
namespace Go.Proofs.YtcmehedjdfopdaaGreat
open Go Go.RowKit

/-- Grey's three new planes and the frame about them. -/
def GreyIn (W H : Int) (N M : Nat) (w0 : World) (fb y u z : Nat) (w : World) : Prop :=
  w.heap[fb]? = some (.cells #[.int .i64 W, .int .i64 H, .slice (some ⟨y, 0, none⟩) N N, .slice (some ⟨u, 0, none⟩) M M, .slice (some ⟨z, 0, none⟩) M M] 54 (0, 0)) ∧
    (w.heap[y]? = some (.cells (zrow N (.int .u8 0)) 5 (0, 0)) ∧ w.heap[u]? = some (.cells (zrow M (.int .u8 0)) 5 (0, 0)) ∧ w.heap[z]? = some (.cells (zrow M (.int .u8 0)) 5 (0, 0))) ∧
    (y ≠ u ∧ y ≠ z ∧ u ≠ z) ∧ (w0.heap.size < fb ∧ w0.heap.size < y ∧ w0.heap.size < u ∧ w0.heap.size < z) ∧ w.heap[w0.heap.size]? = some (.cells #[.int .i64 0, .int .i64 0, .slice none 0 0, .slice none 0 0, .slice none 0 0] 54 (0, 0)) ∧ Only [] w0 w

/-- Five new blocks. -/
theorem heap5 (w : World) (c0 c1 c2 c3 c4 : Obj) : (((((w.alloc c0).alloc c1).alloc c2).alloc c3).alloc c4).drew.heap[w.heap.size]? = some c0 ∧
    (((((w.alloc c0).alloc c1).alloc c2).alloc c3).alloc c4).drew.heap[w.heap.size + 1]? = some c1 ∧ (((((w.alloc c0).alloc c1).alloc c2).alloc c3).alloc c4).drew.heap[w.heap.size + 1 + 1]? = some c2 ∧
    (((((w.alloc c0).alloc c1).alloc c2).alloc c3).alloc c4).drew.heap[w.heap.size + 1 + 1 + 1]? = some c3 ∧ (((((w.alloc c0).alloc c1).alloc c2).alloc c3).alloc c4).drew.heap[w.heap.size + 1 + 1 + 1 + 1]? = some c4 ∧
    Only [] w (((((w.alloc c0).alloc c1).alloc c2).alloc c3).alloc c4).drew := by
  refine ⟨?_, ?_, ?_, ?_, ?_, ((((((Only.refl [] w).alloc _).alloc _).alloc _).alloc _).alloc _).drew⟩
  · exact heap_alloc_lt _ (heap_alloc_lt _ (heap_alloc_lt _ (heap_alloc_lt _ (heap_alloc_at w c0))))
  · exact heap_alloc_lt _ (heap_alloc_lt _ (heap_alloc_lt _ (by simpa using heap_alloc_at (w.alloc c0) c1)))
  · exact heap_alloc_lt _ (heap_alloc_lt _ (by simpa using heap_alloc_at ((w.alloc c0).alloc c1) c2))
  · exact heap_alloc_lt _ (by simpa using heap_alloc_at (((w.alloc c0).alloc c1).alloc c2) c3)
  · show (((((w.alloc c0).alloc c1).alloc c2).alloc c3).alloc c4).heap[w.heap.size + 1 + 1 + 1 + 1]? = some c4
    simpa using heap_alloc_at ((((w.alloc c0).alloc c1).alloc c2).alloc c3) c4

set_option maxRecDepth 100000 in
set_option maxHeartbeats 1600000 in
theorem grey {w : World} {W H v : Int} (N M : Nat) (hN : W * H = N) (hM : (N : Int) / 4 = M) (hn : N ≤ 4096) :
    Calls Tryz.prog 18 #[.int .i64 W, .int .i64 H, .int .u8 v] w fun e w' => ∃ y u z, e = .returned (.agg #[.int .i64 W, .int .i64 H, y, u, z]) ∧ BytesAt w' y (List.replicate N v) ∧ BytesAt w' u (List.replicate M v) ∧ BytesAt w' z (List.replicate M v) ∧ Only [] w w' := by
  have q2 : IntKind.i64.wrap ((N : Int).tdiv 4) = (M : Int) := by rw [Int.tdiv_eq_ediv_of_nonneg (by omega), hM]; exact i64n _ (by omega)
  have Q2 := Lib.hid q2
  have Hn := Lib.hid hn
  have Hm : Hid (M ≤ 4096) := Lib.hid (by omega)
  have q1 : IntKind.i64.wrap (W * H) = (N : Int) := by rw [hN]; exact i64n _ (by omega)
  have Q1 := Lib.hid q1
  clear hN hM hn q1 q2
  go_enter Tryz.func18, Tryz.ntmps18
  go_upto_region 1 with fail
  go_cut [7] (fun c wx => ∃ fb y u z, c = .pointer (some ⟨fb, 0, none⟩) ∧ GreyIn W H N M w fb y u z wx)
  case first =>
    refine wp_region_L (by kernel_rfl) (fun _ => True) 18 ?_
    have hS0 : (fun _ : World => True) w := trivial
    have q1 := Q1.out
    have q2 := Q2.out
    refine AnyL.take 0 (v := ?_) rfl (by kernel_rfl) (by kernel_rfl) (by kernel_rfl) (by kernel_rfl) (fun _ _ _ h => h) (by assumption) (Or.inl ⟨by rfl, ?_⟩) ?_
    rotate_left
    · (intro w' hSw; (try dsimp only at hSw); go_simp; try (with_reducible rfl))
    try simp only [Act.put, List.setIfInBounds_toArray, List.set_cons_zero, List.set_cons_succ]
    refine AnyL.take 1 (v := ?_) rfl (by kernel_rfl) (by kernel_rfl) (by kernel_rfl) (by kernel_rfl) (fun _ _ _ h => h) (by assumption) (Or.inl ⟨by rfl, ?_⟩) ?_
    rotate_left
    · (intro w' hSw; (try dsimp only at hSw); go_simp; try (with_reducible rfl))
    try simp only [Act.put, List.setIfInBounds_toArray, List.set_cons_zero, List.set_cons_succ]
    refine AnyL.take 2 (v := ?_) rfl (by kernel_rfl) (by kernel_rfl) (by kernel_rfl) (by kernel_rfl) (fun _ _ _ h => h) (by assumption) (Or.inl ⟨by rfl, ?_⟩) ?_
    rotate_left
    · (intro w' hSw; (try dsimp only at hSw); go_simp; try (with_reducible rfl))
    try simp only [Act.put, List.setIfInBounds_toArray, List.set_cons_zero, List.set_cons_succ]
    refine AnyL.take 3 (v := ?_) rfl (by kernel_rfl) (by kernel_rfl) (by kernel_rfl) (by kernel_rfl) (fun _ _ _ h => h) (by assumption) (Or.inl ⟨by rfl, ?_⟩) ?_
    rotate_left
    · (intro w' hSw; (try dsimp only at hSw); go_simp; try (with_reducible rfl))
    try simp only [Act.put, List.setIfInBounds_toArray, List.set_cons_zero, List.set_cons_succ]
    refine AnyL.take 4 (v := ?_) rfl (by kernel_rfl) (by kernel_rfl) (by kernel_rfl) (by kernel_rfl) (fun _ _ _ h => h) (by assumption) (Or.inl ⟨by rfl, ?_⟩) ?_
    rotate_left
    · (intro w' hSw; (try dsimp only at hSw); go_simp; try (with_reducible rfl))
    try simp only [Act.put, List.setIfInBounds_toArray, List.set_cons_zero, List.set_cons_succ]
    refine AnyL.take 6 (v := ?_) rfl (by kernel_rfl) (by kernel_rfl) (by kernel_rfl) (by kernel_rfl) (fun _ _ _ h => h) (by assumption) (Or.inl ⟨by rfl, ?_⟩) ?_
    rotate_left
    · (intro w' hSw; (try dsimp only at hSw); go_simp; try (with_reducible rfl))
    try simp only [Act.put, List.setIfInBounds_toArray, List.set_cons_zero, List.set_cons_succ]
    refine AnyL.take 7 (v := ?_) rfl (by kernel_rfl) (by kernel_rfl) (by kernel_rfl) (by kernel_rfl) (fun _ _ _ h => h) (by assumption) (Or.inl ⟨by rfl, ?_⟩) ?_
    rotate_left
    · (intro w' hSw; (try dsimp only at hSw); go_simp; try (with_reducible rfl))
    try simp only [Act.put, List.setIfInBounds_toArray, List.set_cons_zero, List.set_cons_succ]
    refine AnyL.take 8 (v := ?_) rfl (by kernel_rfl) (by kernel_rfl) (by kernel_rfl) (by kernel_rfl) (fun _ _ _ h => h) (by assumption) (Or.inl ⟨by rfl, ?_⟩) ?_
    rotate_left
    · (intro w' hSw; (try dsimp only at hSw); go_simp; try (with_reducible rfl))
    try simp only [Act.put, List.setIfInBounds_toArray, List.set_cons_zero, List.set_cons_succ]
    refine AnyL.take 9 (v := ?_) rfl (by kernel_rfl) (by kernel_rfl) (by kernel_rfl) (by kernel_rfl) (fun _ _ _ h => h) (by assumption) (Or.inl ⟨by rfl, ?_⟩) ?_
    rotate_left
    · (intro w' hSw; (try dsimp only at hSw); go_simp; try (with_reducible rfl))
    try simp only [Act.put, List.setIfInBounds_toArray, List.set_cons_zero, List.set_cons_succ]
    refine AnyL.take 11 (v := ?_) rfl (by kernel_rfl) (by kernel_rfl) (by kernel_rfl) (by kernel_rfl) (fun _ _ _ h => h) (by assumption) (Or.inl ⟨by rfl, ?_⟩) ?_
    rotate_left
    · (intro w' hSw; (try dsimp only at hSw); go_simp; try (with_reducible rfl))
    try simp only [Act.put, List.setIfInBounds_toArray, List.set_cons_zero, List.set_cons_succ]
    refine AnyL.take 12 (v := ?_) rfl (by kernel_rfl) (by kernel_rfl) (by kernel_rfl) (by kernel_rfl) (fun _ _ _ h => h) (by assumption) (Or.inl ⟨by rfl, ?_⟩) ?_
    rotate_left
    · (intro w' hSw; (try dsimp only at hSw); go_simp; try (with_reducible rfl))
    try simp only [Act.put, List.setIfInBounds_toArray, List.set_cons_zero, List.set_cons_succ]
    refine AnyL.take 13 (v := ?_) rfl (by kernel_rfl) (by kernel_rfl) (by kernel_rfl) (by kernel_rfl) (fun _ _ _ h => h) (by assumption) (Or.inl ⟨by rfl, ?_⟩) ?_
    rotate_left
    · (intro w' hSw; (try dsimp only at hSw); go_simp; try (with_reducible rfl))
    try simp only [Act.put, List.setIfInBounds_toArray, List.set_cons_zero, List.set_cons_succ]
    refine AnyL.take 14 (v := ?_) rfl (by kernel_rfl) (by kernel_rfl) (by kernel_rfl) (by kernel_rfl) (fun _ _ _ h => h) (by assumption) (Or.inl ⟨by rfl, ?_⟩) ?_
    rotate_left
    · (intro w' hSw; (try dsimp only at hSw); go_simp; try (with_reducible rfl))
    try simp only [Act.put, List.setIfInBounds_toArray, List.set_cons_zero, List.set_cons_succ]
    refine AnyL.four 5 10 15 17 (by kernel_rfl) (AnyL.op 5 rfl (fun K hK => ?_)) (AnyL.op 10 rfl (fun K hK => ?_)) (AnyL.op 15 rfl (fun K hK => ?_)) (AnyL.op 17 rfl (fun K hK => ?_))
    · rw [if_pos (by rfl)]
      refine wp_make1 (.tmp 14) (.tmp 14) rfl elt8 rfl N rfl rfl (by first | rfl | exact Q1.out | exact Q2.out) (by first | rfl | exact Q1.out | exact Q2.out) (by have := Hn.out; have := Hm.out; omega) (by have := Hn.out; have := Hm.out; omega) ?_
      refine hK _ _ (fun _ => trivial) (fun _ => ?_)
      clear hK K
      try simp only [Act.put, List.setIfInBounds_toArray, List.set_cons_zero, List.set_cons_succ]
      refine AnyL.three 10 15 17 (by kernel_rfl) (AnyL.op 10 rfl (fun K hK => ?_)) (AnyL.op 15 rfl (fun K hK => ?_)) (AnyL.op 17 rfl (fun K hK => ?_))
      · rw [if_pos (by rfl)]
        refine wp_make1 (.tmp 19) (.tmp 19) rfl elt8 rfl M rfl rfl (by first | rfl | exact Q1.out | exact Q2.out) (by first | rfl | exact Q1.out | exact Q2.out) (by have := Hn.out; have := Hm.out; omega) (by have := Hn.out; have := Hm.out; omega) ?_
        refine hK _ _ (fun _ => trivial) (fun _ => ?_)
        clear hK K
        try simp only [Act.put, List.setIfInBounds_toArray, List.set_cons_zero, List.set_cons_succ]
        refine AnyL.two 15 17 (by kernel_rfl) (AnyL.op 15 rfl (fun K hK => ?_)) (AnyL.op 17 rfl (fun K hK => ?_))
        · rw [if_pos (by rfl)]
          refine wp_make1 (.tmp 24) (.tmp 24) rfl elt8 rfl M rfl rfl (by first | rfl | exact Q1.out | exact Q2.out) (by first | rfl | exact Q1.out | exact Q2.out) (by have := Hn.out; have := Hm.out; omega) (by have := Hn.out; have := Hm.out; omega) ?_
          refine hK _ _ (fun _ => trivial) (fun _ => ?_)
          clear hK K
          try simp only [Act.put, List.setIfInBounds_toArray, List.set_cons_zero, List.set_cons_succ]
          refine AnyL.take 16 (v := ?_) rfl (by kernel_rfl) (by kernel_rfl) (by kernel_rfl) (by kernel_rfl) (fun _ _ _ h => h) (by assumption) (Or.inl ⟨by rfl, ?_⟩) ?_
          rotate_left
          · (intro w' hSw; (try dsimp only at hSw); go_simp; try (with_reducible rfl))
          try simp only [Act.put, List.setIfInBounds_toArray, List.set_cons_zero, List.set_cons_succ]
          refine AnyL.one 17 (by kernel_rfl) rfl (fun K hK => ?_)
          go_simp
          refine hK _ _ (fun _ => trivial) (fun _ => ?_)
          clear hK K
          try simp only [Act.put, List.setIfInBounds_toArray, List.set_cons_zero, List.set_cons_succ]
          refine AnyL.one 18 (by kernel_rfl) rfl (fun K hK => ?_)
          go_simp
          refine hK _ _ (fun h => (h rfl).elim) (fun hKq => ?_)
          clear hK K hKq
          try simp only [Act.put, List.setIfInBounds_toArray, List.set_cons_zero, List.set_cons_succ]
          refine AnyL.done (by kernel_rfl) ?_ _
          clear hS0
          go_wp2_with fail
          go_meet
          exact ⟨w.heap.size + 1 + 1 + 1 + 1, w.heap.size + 1, w.heap.size + 1 + 1, w.heap.size + 1 + 1 + 1, rfl, (heap5 w _ _ _ _ _).2.2.2.2.1, ⟨(heap5 w _ _ _ _ _).2.1, (heap5 w _ _ _ _ _).2.2.1, (heap5 w _ _ _ _ _).2.2.2.1⟩, by omega, by omega, (heap5 w _ _ _ _ _).1, (heap5 w _ _ _ _ _).2.2.2.2.2⟩
        · go_simp
          refine hK _ _ (fun _ => trivial) (fun _ => ?_)
          clear hK K
          try simp only [Act.put, List.setIfInBounds_toArray, List.set_cons_zero, List.set_cons_succ]
          refine AnyL.one 15 (by kernel_rfl) rfl (fun K hK => ?_)
          rw [if_pos (by rfl)]
          refine wp_make1 (.tmp 24) (.tmp 24) rfl elt8 rfl M rfl rfl (by first | rfl | exact Q1.out | exact Q2.out) (by first | rfl | exact Q1.out | exact Q2.out) (by have := Hn.out; have := Hm.out; omega) (by have := Hn.out; have := Hm.out; omega) ?_
          refine hK _ _ (fun _ => trivial) (fun _ => ?_)
          clear hK K
          try simp only [Act.put, List.setIfInBounds_toArray, List.set_cons_zero, List.set_cons_succ]
          refine AnyL.take 16 (v := ?_) rfl (by kernel_rfl) (by kernel_rfl) (by kernel_rfl) (by kernel_rfl) (fun _ _ _ h => h) (by assumption) (Or.inl ⟨by rfl, ?_⟩) ?_
          rotate_left
          · (intro w' hSw; (try dsimp only at hSw); go_simp; try (with_reducible rfl))
          try simp only [Act.put, List.setIfInBounds_toArray, List.set_cons_zero, List.set_cons_succ]
          refine AnyL.one 18 (by kernel_rfl) rfl (fun K hK => ?_)
          go_simp
          refine hK _ _ (fun h => (h rfl).elim) (fun hKq => ?_)
          clear hK K hKq
          try simp only [Act.put, List.setIfInBounds_toArray, List.set_cons_zero, List.set_cons_succ]
          refine AnyL.done (by kernel_rfl) ?_ _
          clear hS0
          go_wp2_with fail
          go_meet
          exact ⟨w.heap.size + 1 + 1 + 1, w.heap.size + 1, w.heap.size + 1 + 1, w.heap.size + 1 + 1 + 1 + 1, rfl, (heap5 w _ _ _ _ _).2.2.2.1, ⟨(heap5 w _ _ _ _ _).2.1, (heap5 w _ _ _ _ _).2.2.1, (heap5 w _ _ _ _ _).2.2.2.2.1⟩, by omega, by omega, (heap5 w _ _ _ _ _).1, (heap5 w _ _ _ _ _).2.2.2.2.2⟩
      · rw [if_pos (by rfl)]
        refine wp_make1 (.tmp 24) (.tmp 24) rfl elt8 rfl M rfl rfl (by first | rfl | exact Q1.out | exact Q2.out) (by first | rfl | exact Q1.out | exact Q2.out) (by have := Hn.out; have := Hm.out; omega) (by have := Hn.out; have := Hm.out; omega) ?_
        refine hK _ _ (fun _ => trivial) (fun _ => ?_)
        clear hK K
        try simp only [Act.put, List.setIfInBounds_toArray, List.set_cons_zero, List.set_cons_succ]
        refine AnyL.two 10 17 (by kernel_rfl) (AnyL.op 10 rfl (fun K hK => ?_)) (AnyL.op 17 rfl (fun K hK => ?_))
        · rw [if_pos (by rfl)]
          refine wp_make1 (.tmp 19) (.tmp 19) rfl elt8 rfl M rfl rfl (by first | rfl | exact Q1.out | exact Q2.out) (by first | rfl | exact Q1.out | exact Q2.out) (by have := Hn.out; have := Hm.out; omega) (by have := Hn.out; have := Hm.out; omega) ?_
          refine hK _ _ (fun _ => trivial) (fun _ => ?_)
          clear hK K
          try simp only [Act.put, List.setIfInBounds_toArray, List.set_cons_zero, List.set_cons_succ]
          refine AnyL.take 16 (v := ?_) rfl (by kernel_rfl) (by kernel_rfl) (by kernel_rfl) (by kernel_rfl) (fun _ _ _ h => h) (by assumption) (Or.inl ⟨by rfl, ?_⟩) ?_
          rotate_left
          · (intro w' hSw; (try dsimp only at hSw); go_simp; try (with_reducible rfl))
          try simp only [Act.put, List.setIfInBounds_toArray, List.set_cons_zero, List.set_cons_succ]
          refine AnyL.one 17 (by kernel_rfl) rfl (fun K hK => ?_)
          go_simp
          refine hK _ _ (fun _ => trivial) (fun _ => ?_)
          clear hK K
          try simp only [Act.put, List.setIfInBounds_toArray, List.set_cons_zero, List.set_cons_succ]
          refine AnyL.one 18 (by kernel_rfl) rfl (fun K hK => ?_)
          go_simp
          refine hK _ _ (fun h => (h rfl).elim) (fun hKq => ?_)
          clear hK K hKq
          try simp only [Act.put, List.setIfInBounds_toArray, List.set_cons_zero, List.set_cons_succ]
          refine AnyL.done (by kernel_rfl) ?_ _
          clear hS0
          go_wp2_with fail
          go_meet
          exact ⟨w.heap.size + 1 + 1 + 1 + 1, w.heap.size + 1, w.heap.size + 1 + 1 + 1, w.heap.size + 1 + 1, rfl, (heap5 w _ _ _ _ _).2.2.2.2.1, ⟨(heap5 w _ _ _ _ _).2.1, (heap5 w _ _ _ _ _).2.2.2.1, (heap5 w _ _ _ _ _).2.2.1⟩, by omega, by omega, (heap5 w _ _ _ _ _).1, (heap5 w _ _ _ _ _).2.2.2.2.2⟩
        · go_simp
          refine hK _ _ (fun _ => trivial) (fun _ => ?_)
          clear hK K
          try simp only [Act.put, List.setIfInBounds_toArray, List.set_cons_zero, List.set_cons_succ]
          refine AnyL.one 10 (by kernel_rfl) rfl (fun K hK => ?_)
          rw [if_pos (by rfl)]
          refine wp_make1 (.tmp 19) (.tmp 19) rfl elt8 rfl M rfl rfl (by first | rfl | exact Q1.out | exact Q2.out) (by first | rfl | exact Q1.out | exact Q2.out) (by have := Hn.out; have := Hm.out; omega) (by have := Hn.out; have := Hm.out; omega) ?_
          refine hK _ _ (fun _ => trivial) (fun _ => ?_)
          clear hK K
          try simp only [Act.put, List.setIfInBounds_toArray, List.set_cons_zero, List.set_cons_succ]
          refine AnyL.take 16 (v := ?_) rfl (by kernel_rfl) (by kernel_rfl) (by kernel_rfl) (by kernel_rfl) (fun _ _ _ h => h) (by assumption) (Or.inl ⟨by rfl, ?_⟩) ?_
          rotate_left
          · (intro w' hSw; (try dsimp only at hSw); go_simp; try (with_reducible rfl))
          try simp only [Act.put, List.setIfInBounds_toArray, List.set_cons_zero, List.set_cons_succ]
          refine AnyL.one 18 (by kernel_rfl) rfl (fun K hK => ?_)
          go_simp
          refine hK _ _ (fun h => (h rfl).elim) (fun hKq => ?_)
          clear hK K hKq
          try simp only [Act.put, List.setIfInBounds_toArray, List.set_cons_zero, List.set_cons_succ]
          refine AnyL.done (by kernel_rfl) ?_ _
          clear hS0
          go_wp2_with fail
          go_meet
          exact ⟨w.heap.size + 1 + 1 + 1, w.heap.size + 1, w.heap.size + 1 + 1 + 1 + 1, w.heap.size + 1 + 1, rfl, (heap5 w _ _ _ _ _).2.2.2.1, ⟨(heap5 w _ _ _ _ _).2.1, (heap5 w _ _ _ _ _).2.2.2.2.1, (heap5 w _ _ _ _ _).2.2.1⟩, by omega, by omega, (heap5 w _ _ _ _ _).1, (heap5 w _ _ _ _ _).2.2.2.2.2⟩
      · go_simp
        refine hK _ _ (fun _ => trivial) (fun _ => ?_)
        clear hK K
        try simp only [Act.put, List.setIfInBounds_toArray, List.set_cons_zero, List.set_cons_succ]
        refine AnyL.two 10 15 (by kernel_rfl) (AnyL.op 10 rfl (fun K hK => ?_)) (AnyL.op 15 rfl (fun K hK => ?_))
        · rw [if_pos (by rfl)]
          refine wp_make1 (.tmp 19) (.tmp 19) rfl elt8 rfl M rfl rfl (by first | rfl | exact Q1.out | exact Q2.out) (by first | rfl | exact Q1.out | exact Q2.out) (by have := Hn.out; have := Hm.out; omega) (by have := Hn.out; have := Hm.out; omega) ?_
          refine hK _ _ (fun _ => trivial) (fun _ => ?_)
          clear hK K
          try simp only [Act.put, List.setIfInBounds_toArray, List.set_cons_zero, List.set_cons_succ]
          refine AnyL.one 15 (by kernel_rfl) rfl (fun K hK => ?_)
          rw [if_pos (by rfl)]
          refine wp_make1 (.tmp 24) (.tmp 24) rfl elt8 rfl M rfl rfl (by first | rfl | exact Q1.out | exact Q2.out) (by first | rfl | exact Q1.out | exact Q2.out) (by have := Hn.out; have := Hm.out; omega) (by have := Hn.out; have := Hm.out; omega) ?_
          refine hK _ _ (fun _ => trivial) (fun _ => ?_)
          clear hK K
          try simp only [Act.put, List.setIfInBounds_toArray, List.set_cons_zero, List.set_cons_succ]
          refine AnyL.take 16 (v := ?_) rfl (by kernel_rfl) (by kernel_rfl) (by kernel_rfl) (by kernel_rfl) (fun _ _ _ h => h) (by assumption) (Or.inl ⟨by rfl, ?_⟩) ?_
          rotate_left
          · (intro w' hSw; (try dsimp only at hSw); go_simp; try (with_reducible rfl))
          try simp only [Act.put, List.setIfInBounds_toArray, List.set_cons_zero, List.set_cons_succ]
          refine AnyL.one 18 (by kernel_rfl) rfl (fun K hK => ?_)
          go_simp
          refine hK _ _ (fun h => (h rfl).elim) (fun hKq => ?_)
          clear hK K hKq
          try simp only [Act.put, List.setIfInBounds_toArray, List.set_cons_zero, List.set_cons_succ]
          refine AnyL.done (by kernel_rfl) ?_ _
          clear hS0
          go_wp2_with fail
          go_meet
          exact ⟨w.heap.size + 1 + 1, w.heap.size + 1, w.heap.size + 1 + 1 + 1, w.heap.size + 1 + 1 + 1 + 1, rfl, (heap5 w _ _ _ _ _).2.2.1, ⟨(heap5 w _ _ _ _ _).2.1, (heap5 w _ _ _ _ _).2.2.2.1, (heap5 w _ _ _ _ _).2.2.2.2.1⟩, by omega, by omega, (heap5 w _ _ _ _ _).1, (heap5 w _ _ _ _ _).2.2.2.2.2⟩
        · rw [if_pos (by rfl)]
          refine wp_make1 (.tmp 24) (.tmp 24) rfl elt8 rfl M rfl rfl (by first | rfl | exact Q1.out | exact Q2.out) (by first | rfl | exact Q1.out | exact Q2.out) (by have := Hn.out; have := Hm.out; omega) (by have := Hn.out; have := Hm.out; omega) ?_
          refine hK _ _ (fun _ => trivial) (fun _ => ?_)
          clear hK K
          try simp only [Act.put, List.setIfInBounds_toArray, List.set_cons_zero, List.set_cons_succ]
          refine AnyL.one 10 (by kernel_rfl) rfl (fun K hK => ?_)
          rw [if_pos (by rfl)]
          refine wp_make1 (.tmp 19) (.tmp 19) rfl elt8 rfl M rfl rfl (by first | rfl | exact Q1.out | exact Q2.out) (by first | rfl | exact Q1.out | exact Q2.out) (by have := Hn.out; have := Hm.out; omega) (by have := Hn.out; have := Hm.out; omega) ?_
          refine hK _ _ (fun _ => trivial) (fun _ => ?_)
          clear hK K
          try simp only [Act.put, List.setIfInBounds_toArray, List.set_cons_zero, List.set_cons_succ]
          refine AnyL.take 16 (v := ?_) rfl (by kernel_rfl) (by kernel_rfl) (by kernel_rfl) (by kernel_rfl) (fun _ _ _ h => h) (by assumption) (Or.inl ⟨by rfl, ?_⟩) ?_
          rotate_left
          · (intro w' hSw; (try dsimp only at hSw); go_simp; try (with_reducible rfl))
          try simp only [Act.put, List.setIfInBounds_toArray, List.set_cons_zero, List.set_cons_succ]
          refine AnyL.one 18 (by kernel_rfl) rfl (fun K hK => ?_)
          go_simp
          refine hK _ _ (fun h => (h rfl).elim) (fun hKq => ?_)
          clear hK K hKq
          try simp only [Act.put, List.setIfInBounds_toArray, List.set_cons_zero, List.set_cons_succ]
          refine AnyL.done (by kernel_rfl) ?_ _
          clear hS0
          go_wp2_with fail
          go_meet
          exact ⟨w.heap.size + 1 + 1, w.heap.size + 1, w.heap.size + 1 + 1 + 1 + 1, w.heap.size + 1 + 1 + 1, rfl, (heap5 w _ _ _ _ _).2.2.1, ⟨(heap5 w _ _ _ _ _).2.1, (heap5 w _ _ _ _ _).2.2.2.2.1, (heap5 w _ _ _ _ _).2.2.2.1⟩, by omega, by omega, (heap5 w _ _ _ _ _).1, (heap5 w _ _ _ _ _).2.2.2.2.2⟩
    · rw [if_pos (by rfl)]
      refine wp_make1 (.tmp 19) (.tmp 19) rfl elt8 rfl M rfl rfl (by first | rfl | exact Q1.out | exact Q2.out) (by first | rfl | exact Q1.out | exact Q2.out) (by have := Hn.out; have := Hm.out; omega) (by have := Hn.out; have := Hm.out; omega) ?_
      refine hK _ _ (fun _ => trivial) (fun _ => ?_)
      clear hK K
      try simp only [Act.put, List.setIfInBounds_toArray, List.set_cons_zero, List.set_cons_succ]
      refine AnyL.three 5 15 17 (by kernel_rfl) (AnyL.op 5 rfl (fun K hK => ?_)) (AnyL.op 15 rfl (fun K hK => ?_)) (AnyL.op 17 rfl (fun K hK => ?_))
      · rw [if_pos (by rfl)]
        refine wp_make1 (.tmp 14) (.tmp 14) rfl elt8 rfl N rfl rfl (by first | rfl | exact Q1.out | exact Q2.out) (by first | rfl | exact Q1.out | exact Q2.out) (by have := Hn.out; have := Hm.out; omega) (by have := Hn.out; have := Hm.out; omega) ?_
        refine hK _ _ (fun _ => trivial) (fun _ => ?_)
        clear hK K
        try simp only [Act.put, List.setIfInBounds_toArray, List.set_cons_zero, List.set_cons_succ]
        refine AnyL.two 15 17 (by kernel_rfl) (AnyL.op 15 rfl (fun K hK => ?_)) (AnyL.op 17 rfl (fun K hK => ?_))
        · rw [if_pos (by rfl)]
          refine wp_make1 (.tmp 24) (.tmp 24) rfl elt8 rfl M rfl rfl (by first | rfl | exact Q1.out | exact Q2.out) (by first | rfl | exact Q1.out | exact Q2.out) (by have := Hn.out; have := Hm.out; omega) (by have := Hn.out; have := Hm.out; omega) ?_
          refine hK _ _ (fun _ => trivial) (fun _ => ?_)
          clear hK K
          try simp only [Act.put, List.setIfInBounds_toArray, List.set_cons_zero, List.set_cons_succ]
          refine AnyL.take 16 (v := ?_) rfl (by kernel_rfl) (by kernel_rfl) (by kernel_rfl) (by kernel_rfl) (fun _ _ _ h => h) (by assumption) (Or.inl ⟨by rfl, ?_⟩) ?_
          rotate_left
          · (intro w' hSw; (try dsimp only at hSw); go_simp; try (with_reducible rfl))
          try simp only [Act.put, List.setIfInBounds_toArray, List.set_cons_zero, List.set_cons_succ]
          refine AnyL.one 17 (by kernel_rfl) rfl (fun K hK => ?_)
          go_simp
          refine hK _ _ (fun _ => trivial) (fun _ => ?_)
          clear hK K
          try simp only [Act.put, List.setIfInBounds_toArray, List.set_cons_zero, List.set_cons_succ]
          refine AnyL.one 18 (by kernel_rfl) rfl (fun K hK => ?_)
          go_simp
          refine hK _ _ (fun h => (h rfl).elim) (fun hKq => ?_)
          clear hK K hKq
          try simp only [Act.put, List.setIfInBounds_toArray, List.set_cons_zero, List.set_cons_succ]
          refine AnyL.done (by kernel_rfl) ?_ _
          clear hS0
          go_wp2_with fail
          go_meet
          exact ⟨w.heap.size + 1 + 1 + 1 + 1, w.heap.size + 1 + 1, w.heap.size + 1, w.heap.size + 1 + 1 + 1, rfl, (heap5 w _ _ _ _ _).2.2.2.2.1, ⟨(heap5 w _ _ _ _ _).2.2.1, (heap5 w _ _ _ _ _).2.1, (heap5 w _ _ _ _ _).2.2.2.1⟩, by omega, by omega, (heap5 w _ _ _ _ _).1, (heap5 w _ _ _ _ _).2.2.2.2.2⟩
        · go_simp
          refine hK _ _ (fun _ => trivial) (fun _ => ?_)
          clear hK K
          try simp only [Act.put, List.setIfInBounds_toArray, List.set_cons_zero, List.set_cons_succ]
          refine AnyL.one 15 (by kernel_rfl) rfl (fun K hK => ?_)
          rw [if_pos (by rfl)]
          refine wp_make1 (.tmp 24) (.tmp 24) rfl elt8 rfl M rfl rfl (by first | rfl | exact Q1.out | exact Q2.out) (by first | rfl | exact Q1.out | exact Q2.out) (by have := Hn.out; have := Hm.out; omega) (by have := Hn.out; have := Hm.out; omega) ?_
          refine hK _ _ (fun _ => trivial) (fun _ => ?_)
          clear hK K
          try simp only [Act.put, List.setIfInBounds_toArray, List.set_cons_zero, List.set_cons_succ]
          refine AnyL.take 16 (v := ?_) rfl (by kernel_rfl) (by kernel_rfl) (by kernel_rfl) (by kernel_rfl) (fun _ _ _ h => h) (by assumption) (Or.inl ⟨by rfl, ?_⟩) ?_
          rotate_left
          · (intro w' hSw; (try dsimp only at hSw); go_simp; try (with_reducible rfl))
          try simp only [Act.put, List.setIfInBounds_toArray, List.set_cons_zero, List.set_cons_succ]
          refine AnyL.one 18 (by kernel_rfl) rfl (fun K hK => ?_)
          go_simp
          refine hK _ _ (fun h => (h rfl).elim) (fun hKq => ?_)
          clear hK K hKq
          try simp only [Act.put, List.setIfInBounds_toArray, List.set_cons_zero, List.set_cons_succ]
          refine AnyL.done (by kernel_rfl) ?_ _
          clear hS0
          go_wp2_with fail
          go_meet
          exact ⟨w.heap.size + 1 + 1 + 1, w.heap.size + 1 + 1, w.heap.size + 1, w.heap.size + 1 + 1 + 1 + 1, rfl, (heap5 w _ _ _ _ _).2.2.2.1, ⟨(heap5 w _ _ _ _ _).2.2.1, (heap5 w _ _ _ _ _).2.1, (heap5 w _ _ _ _ _).2.2.2.2.1⟩, by omega, by omega, (heap5 w _ _ _ _ _).1, (heap5 w _ _ _ _ _).2.2.2.2.2⟩
      · rw [if_pos (by rfl)]
        refine wp_make1 (.tmp 24) (.tmp 24) rfl elt8 rfl M rfl rfl (by first | rfl | exact Q1.out | exact Q2.out) (by first | rfl | exact Q1.out | exact Q2.out) (by have := Hn.out; have := Hm.out; omega) (by have := Hn.out; have := Hm.out; omega) ?_
        refine hK _ _ (fun _ => trivial) (fun _ => ?_)
        clear hK K
        try simp only [Act.put, List.setIfInBounds_toArray, List.set_cons_zero, List.set_cons_succ]
        refine AnyL.two 5 17 (by kernel_rfl) (AnyL.op 5 rfl (fun K hK => ?_)) (AnyL.op 17 rfl (fun K hK => ?_))
        · rw [if_pos (by rfl)]
          refine wp_make1 (.tmp 14) (.tmp 14) rfl elt8 rfl N rfl rfl (by first | rfl | exact Q1.out | exact Q2.out) (by first | rfl | exact Q1.out | exact Q2.out) (by have := Hn.out; have := Hm.out; omega) (by have := Hn.out; have := Hm.out; omega) ?_
          refine hK _ _ (fun _ => trivial) (fun _ => ?_)
          clear hK K
          try simp only [Act.put, List.setIfInBounds_toArray, List.set_cons_zero, List.set_cons_succ]
          refine AnyL.take 16 (v := ?_) rfl (by kernel_rfl) (by kernel_rfl) (by kernel_rfl) (by kernel_rfl) (fun _ _ _ h => h) (by assumption) (Or.inl ⟨by rfl, ?_⟩) ?_
          rotate_left
          · (intro w' hSw; (try dsimp only at hSw); go_simp; try (with_reducible rfl))
          try simp only [Act.put, List.setIfInBounds_toArray, List.set_cons_zero, List.set_cons_succ]
          refine AnyL.one 17 (by kernel_rfl) rfl (fun K hK => ?_)
          go_simp
          refine hK _ _ (fun _ => trivial) (fun _ => ?_)
          clear hK K
          try simp only [Act.put, List.setIfInBounds_toArray, List.set_cons_zero, List.set_cons_succ]
          refine AnyL.one 18 (by kernel_rfl) rfl (fun K hK => ?_)
          go_simp
          refine hK _ _ (fun h => (h rfl).elim) (fun hKq => ?_)
          clear hK K hKq
          try simp only [Act.put, List.setIfInBounds_toArray, List.set_cons_zero, List.set_cons_succ]
          refine AnyL.done (by kernel_rfl) ?_ _
          clear hS0
          go_wp2_with fail
          go_meet
          exact ⟨w.heap.size + 1 + 1 + 1 + 1, w.heap.size + 1 + 1 + 1, w.heap.size + 1, w.heap.size + 1 + 1, rfl, (heap5 w _ _ _ _ _).2.2.2.2.1, ⟨(heap5 w _ _ _ _ _).2.2.2.1, (heap5 w _ _ _ _ _).2.1, (heap5 w _ _ _ _ _).2.2.1⟩, by omega, by omega, (heap5 w _ _ _ _ _).1, (heap5 w _ _ _ _ _).2.2.2.2.2⟩
        · go_simp
          refine hK _ _ (fun _ => trivial) (fun _ => ?_)
          clear hK K
          try simp only [Act.put, List.setIfInBounds_toArray, List.set_cons_zero, List.set_cons_succ]
          refine AnyL.one 5 (by kernel_rfl) rfl (fun K hK => ?_)
          rw [if_pos (by rfl)]
          refine wp_make1 (.tmp 14) (.tmp 14) rfl elt8 rfl N rfl rfl (by first | rfl | exact Q1.out | exact Q2.out) (by first | rfl | exact Q1.out | exact Q2.out) (by have := Hn.out; have := Hm.out; omega) (by have := Hn.out; have := Hm.out; omega) ?_
          refine hK _ _ (fun _ => trivial) (fun _ => ?_)
          clear hK K
          try simp only [Act.put, List.setIfInBounds_toArray, List.set_cons_zero, List.set_cons_succ]
          refine AnyL.take 16 (v := ?_) rfl (by kernel_rfl) (by kernel_rfl) (by kernel_rfl) (by kernel_rfl) (fun _ _ _ h => h) (by assumption) (Or.inl ⟨by rfl, ?_⟩) ?_
          rotate_left
          · (intro w' hSw; (try dsimp only at hSw); go_simp; try (with_reducible rfl))
          try simp only [Act.put, List.setIfInBounds_toArray, List.set_cons_zero, List.set_cons_succ]
          refine AnyL.one 18 (by kernel_rfl) rfl (fun K hK => ?_)
          go_simp
          refine hK _ _ (fun h => (h rfl).elim) (fun hKq => ?_)
          clear hK K hKq
          try simp only [Act.put, List.setIfInBounds_toArray, List.set_cons_zero, List.set_cons_succ]
          refine AnyL.done (by kernel_rfl) ?_ _
          clear hS0
          go_wp2_with fail
          go_meet
          exact ⟨w.heap.size + 1 + 1 + 1, w.heap.size + 1 + 1 + 1 + 1, w.heap.size + 1, w.heap.size + 1 + 1, rfl, (heap5 w _ _ _ _ _).2.2.2.1, ⟨(heap5 w _ _ _ _ _).2.2.2.2.1, (heap5 w _ _ _ _ _).2.1, (heap5 w _ _ _ _ _).2.2.1⟩, by omega, by omega, (heap5 w _ _ _ _ _).1, (heap5 w _ _ _ _ _).2.2.2.2.2⟩
      · go_simp
        refine hK _ _ (fun _ => trivial) (fun _ => ?_)
        clear hK K
        try simp only [Act.put, List.setIfInBounds_toArray, List.set_cons_zero, List.set_cons_succ]
        refine AnyL.two 5 15 (by kernel_rfl) (AnyL.op 5 rfl (fun K hK => ?_)) (AnyL.op 15 rfl (fun K hK => ?_))
        · rw [if_pos (by rfl)]
          refine wp_make1 (.tmp 14) (.tmp 14) rfl elt8 rfl N rfl rfl (by first | rfl | exact Q1.out | exact Q2.out) (by first | rfl | exact Q1.out | exact Q2.out) (by have := Hn.out; have := Hm.out; omega) (by have := Hn.out; have := Hm.out; omega) ?_
          refine hK _ _ (fun _ => trivial) (fun _ => ?_)
          clear hK K
          try simp only [Act.put, List.setIfInBounds_toArray, List.set_cons_zero, List.set_cons_succ]
          refine AnyL.one 15 (by kernel_rfl) rfl (fun K hK => ?_)
          rw [if_pos (by rfl)]
          refine wp_make1 (.tmp 24) (.tmp 24) rfl elt8 rfl M rfl rfl (by first | rfl | exact Q1.out | exact Q2.out) (by first | rfl | exact Q1.out | exact Q2.out) (by have := Hn.out; have := Hm.out; omega) (by have := Hn.out; have := Hm.out; omega) ?_
          refine hK _ _ (fun _ => trivial) (fun _ => ?_)
          clear hK K
          try simp only [Act.put, List.setIfInBounds_toArray, List.set_cons_zero, List.set_cons_succ]
          refine AnyL.take 16 (v := ?_) rfl (by kernel_rfl) (by kernel_rfl) (by kernel_rfl) (by kernel_rfl) (fun _ _ _ h => h) (by assumption) (Or.inl ⟨by rfl, ?_⟩) ?_
          rotate_left
          · (intro w' hSw; (try dsimp only at hSw); go_simp; try (with_reducible rfl))
          try simp only [Act.put, List.setIfInBounds_toArray, List.set_cons_zero, List.set_cons_succ]
          refine AnyL.one 18 (by kernel_rfl) rfl (fun K hK => ?_)
          go_simp
          refine hK _ _ (fun h => (h rfl).elim) (fun hKq => ?_)
          clear hK K hKq
          try simp only [Act.put, List.setIfInBounds_toArray, List.set_cons_zero, List.set_cons_succ]
          refine AnyL.done (by kernel_rfl) ?_ _
          clear hS0
          go_wp2_with fail
          go_meet
          exact ⟨w.heap.size + 1 + 1, w.heap.size + 1 + 1 + 1, w.heap.size + 1, w.heap.size + 1 + 1 + 1 + 1, rfl, (heap5 w _ _ _ _ _).2.2.1, ⟨(heap5 w _ _ _ _ _).2.2.2.1, (heap5 w _ _ _ _ _).2.1, (heap5 w _ _ _ _ _).2.2.2.2.1⟩, by omega, by omega, (heap5 w _ _ _ _ _).1, (heap5 w _ _ _ _ _).2.2.2.2.2⟩
        · rw [if_pos (by rfl)]
          refine wp_make1 (.tmp 24) (.tmp 24) rfl elt8 rfl M rfl rfl (by first | rfl | exact Q1.out | exact Q2.out) (by first | rfl | exact Q1.out | exact Q2.out) (by have := Hn.out; have := Hm.out; omega) (by have := Hn.out; have := Hm.out; omega) ?_
          refine hK _ _ (fun _ => trivial) (fun _ => ?_)
          clear hK K
          try simp only [Act.put, List.setIfInBounds_toArray, List.set_cons_zero, List.set_cons_succ]
          refine AnyL.one 5 (by kernel_rfl) rfl (fun K hK => ?_)
          rw [if_pos (by rfl)]
          refine wp_make1 (.tmp 14) (.tmp 14) rfl elt8 rfl N rfl rfl (by first | rfl | exact Q1.out | exact Q2.out) (by first | rfl | exact Q1.out | exact Q2.out) (by have := Hn.out; have := Hm.out; omega) (by have := Hn.out; have := Hm.out; omega) ?_
          refine hK _ _ (fun _ => trivial) (fun _ => ?_)
          clear hK K
          try simp only [Act.put, List.setIfInBounds_toArray, List.set_cons_zero, List.set_cons_succ]
          refine AnyL.take 16 (v := ?_) rfl (by kernel_rfl) (by kernel_rfl) (by kernel_rfl) (by kernel_rfl) (fun _ _ _ h => h) (by assumption) (Or.inl ⟨by rfl, ?_⟩) ?_
          rotate_left
          · (intro w' hSw; (try dsimp only at hSw); go_simp; try (with_reducible rfl))
          try simp only [Act.put, List.setIfInBounds_toArray, List.set_cons_zero, List.set_cons_succ]
          refine AnyL.one 18 (by kernel_rfl) rfl (fun K hK => ?_)
          go_simp
          refine hK _ _ (fun h => (h rfl).elim) (fun hKq => ?_)
          clear hK K hKq
          try simp only [Act.put, List.setIfInBounds_toArray, List.set_cons_zero, List.set_cons_succ]
          refine AnyL.done (by kernel_rfl) ?_ _
          clear hS0
          go_wp2_with fail
          go_meet
          exact ⟨w.heap.size + 1 + 1, w.heap.size + 1 + 1 + 1 + 1, w.heap.size + 1, w.heap.size + 1 + 1 + 1, rfl, (heap5 w _ _ _ _ _).2.2.1, ⟨(heap5 w _ _ _ _ _).2.2.2.2.1, (heap5 w _ _ _ _ _).2.1, (heap5 w _ _ _ _ _).2.2.2.1⟩, by omega, by omega, (heap5 w _ _ _ _ _).1, (heap5 w _ _ _ _ _).2.2.2.2.2⟩
    · rw [if_pos (by rfl)]
      refine wp_make1 (.tmp 24) (.tmp 24) rfl elt8 rfl M rfl rfl (by first | rfl | exact Q1.out | exact Q2.out) (by first | rfl | exact Q1.out | exact Q2.out) (by have := Hn.out; have := Hm.out; omega) (by have := Hn.out; have := Hm.out; omega) ?_
      refine hK _ _ (fun _ => trivial) (fun _ => ?_)
      clear hK K
      try simp only [Act.put, List.setIfInBounds_toArray, List.set_cons_zero, List.set_cons_succ]
      refine AnyL.three 5 10 17 (by kernel_rfl) (AnyL.op 5 rfl (fun K hK => ?_)) (AnyL.op 10 rfl (fun K hK => ?_)) (AnyL.op 17 rfl (fun K hK => ?_))
      · rw [if_pos (by rfl)]
        refine wp_make1 (.tmp 14) (.tmp 14) rfl elt8 rfl N rfl rfl (by first | rfl | exact Q1.out | exact Q2.out) (by first | rfl | exact Q1.out | exact Q2.out) (by have := Hn.out; have := Hm.out; omega) (by have := Hn.out; have := Hm.out; omega) ?_
        refine hK _ _ (fun _ => trivial) (fun _ => ?_)
        clear hK K
        try simp only [Act.put, List.setIfInBounds_toArray, List.set_cons_zero, List.set_cons_succ]
        refine AnyL.two 10 17 (by kernel_rfl) (AnyL.op 10 rfl (fun K hK => ?_)) (AnyL.op 17 rfl (fun K hK => ?_))
        · rw [if_pos (by rfl)]
          refine wp_make1 (.tmp 19) (.tmp 19) rfl elt8 rfl M rfl rfl (by first | rfl | exact Q1.out | exact Q2.out) (by first | rfl | exact Q1.out | exact Q2.out) (by have := Hn.out; have := Hm.out; omega) (by have := Hn.out; have := Hm.out; omega) ?_
          refine hK _ _ (fun _ => trivial) (fun _ => ?_)
          clear hK K
          try simp only [Act.put, List.setIfInBounds_toArray, List.set_cons_zero, List.set_cons_succ]
          refine AnyL.take 16 (v := ?_) rfl (by kernel_rfl) (by kernel_rfl) (by kernel_rfl) (by kernel_rfl) (fun _ _ _ h => h) (by assumption) (Or.inl ⟨by rfl, ?_⟩) ?_
          rotate_left
          · (intro w' hSw; (try dsimp only at hSw); go_simp; try (with_reducible rfl))
          try simp only [Act.put, List.setIfInBounds_toArray, List.set_cons_zero, List.set_cons_succ]
          refine AnyL.one 17 (by kernel_rfl) rfl (fun K hK => ?_)
          go_simp
          refine hK _ _ (fun _ => trivial) (fun _ => ?_)
          clear hK K
          try simp only [Act.put, List.setIfInBounds_toArray, List.set_cons_zero, List.set_cons_succ]
          refine AnyL.one 18 (by kernel_rfl) rfl (fun K hK => ?_)
          go_simp
          refine hK _ _ (fun h => (h rfl).elim) (fun hKq => ?_)
          clear hK K hKq
          try simp only [Act.put, List.setIfInBounds_toArray, List.set_cons_zero, List.set_cons_succ]
          refine AnyL.done (by kernel_rfl) ?_ _
          clear hS0
          go_wp2_with fail
          go_meet
          exact ⟨w.heap.size + 1 + 1 + 1 + 1, w.heap.size + 1 + 1, w.heap.size + 1 + 1 + 1, w.heap.size + 1, rfl, (heap5 w _ _ _ _ _).2.2.2.2.1, ⟨(heap5 w _ _ _ _ _).2.2.1, (heap5 w _ _ _ _ _).2.2.2.1, (heap5 w _ _ _ _ _).2.1⟩, by omega, by omega, (heap5 w _ _ _ _ _).1, (heap5 w _ _ _ _ _).2.2.2.2.2⟩
        · go_simp
          refine hK _ _ (fun _ => trivial) (fun _ => ?_)
          clear hK K
          try simp only [Act.put, List.setIfInBounds_toArray, List.set_cons_zero, List.set_cons_succ]
          refine AnyL.one 10 (by kernel_rfl) rfl (fun K hK => ?_)
          rw [if_pos (by rfl)]
          refine wp_make1 (.tmp 19) (.tmp 19) rfl elt8 rfl M rfl rfl (by first | rfl | exact Q1.out | exact Q2.out) (by first | rfl | exact Q1.out | exact Q2.out) (by have := Hn.out; have := Hm.out; omega) (by have := Hn.out; have := Hm.out; omega) ?_
          refine hK _ _ (fun _ => trivial) (fun _ => ?_)
          clear hK K
          try simp only [Act.put, List.setIfInBounds_toArray, List.set_cons_zero, List.set_cons_succ]
          refine AnyL.take 16 (v := ?_) rfl (by kernel_rfl) (by kernel_rfl) (by kernel_rfl) (by kernel_rfl) (fun _ _ _ h => h) (by assumption) (Or.inl ⟨by rfl, ?_⟩) ?_
          rotate_left
          · (intro w' hSw; (try dsimp only at hSw); go_simp; try (with_reducible rfl))
          try simp only [Act.put, List.setIfInBounds_toArray, List.set_cons_zero, List.set_cons_succ]
          refine AnyL.one 18 (by kernel_rfl) rfl (fun K hK => ?_)
          go_simp
          refine hK _ _ (fun h => (h rfl).elim) (fun hKq => ?_)
          clear hK K hKq
          try simp only [Act.put, List.setIfInBounds_toArray, List.set_cons_zero, List.set_cons_succ]
          refine AnyL.done (by kernel_rfl) ?_ _
          clear hS0
          go_wp2_with fail
          go_meet
          exact ⟨w.heap.size + 1 + 1 + 1, w.heap.size + 1 + 1, w.heap.size + 1 + 1 + 1 + 1, w.heap.size + 1, rfl, (heap5 w _ _ _ _ _).2.2.2.1, ⟨(heap5 w _ _ _ _ _).2.2.1, (heap5 w _ _ _ _ _).2.2.2.2.1, (heap5 w _ _ _ _ _).2.1⟩, by omega, by omega, (heap5 w _ _ _ _ _).1, (heap5 w _ _ _ _ _).2.2.2.2.2⟩
      · rw [if_pos (by rfl)]
        refine wp_make1 (.tmp 19) (.tmp 19) rfl elt8 rfl M rfl rfl (by first | rfl | exact Q1.out | exact Q2.out) (by first | rfl | exact Q1.out | exact Q2.out) (by have := Hn.out; have := Hm.out; omega) (by have := Hn.out; have := Hm.out; omega) ?_
        refine hK _ _ (fun _ => trivial) (fun _ => ?_)
        clear hK K
        try simp only [Act.put, List.setIfInBounds_toArray, List.set_cons_zero, List.set_cons_succ]
        refine AnyL.two 5 17 (by kernel_rfl) (AnyL.op 5 rfl (fun K hK => ?_)) (AnyL.op 17 rfl (fun K hK => ?_))
        · rw [if_pos (by rfl)]
          refine wp_make1 (.tmp 14) (.tmp 14) rfl elt8 rfl N rfl rfl (by first | rfl | exact Q1.out | exact Q2.out) (by first | rfl | exact Q1.out | exact Q2.out) (by have := Hn.out; have := Hm.out; omega) (by have := Hn.out; have := Hm.out; omega) ?_
          refine hK _ _ (fun _ => trivial) (fun _ => ?_)
          clear hK K
          try simp only [Act.put, List.setIfInBounds_toArray, List.set_cons_zero, List.set_cons_succ]
          refine AnyL.take 16 (v := ?_) rfl (by kernel_rfl) (by kernel_rfl) (by kernel_rfl) (by kernel_rfl) (fun _ _ _ h => h) (by assumption) (Or.inl ⟨by rfl, ?_⟩) ?_
          rotate_left
          · (intro w' hSw; (try dsimp only at hSw); go_simp; try (with_reducible rfl))
          try simp only [Act.put, List.setIfInBounds_toArray, List.set_cons_zero, List.set_cons_succ]
          refine AnyL.one 17 (by kernel_rfl) rfl (fun K hK => ?_)
          go_simp
          refine hK _ _ (fun _ => trivial) (fun _ => ?_)
          clear hK K
          try simp only [Act.put, List.setIfInBounds_toArray, List.set_cons_zero, List.set_cons_succ]
          refine AnyL.one 18 (by kernel_rfl) rfl (fun K hK => ?_)
          go_simp
          refine hK _ _ (fun h => (h rfl).elim) (fun hKq => ?_)
          clear hK K hKq
          try simp only [Act.put, List.setIfInBounds_toArray, List.set_cons_zero, List.set_cons_succ]
          refine AnyL.done (by kernel_rfl) ?_ _
          clear hS0
          go_wp2_with fail
          go_meet
          exact ⟨w.heap.size + 1 + 1 + 1 + 1, w.heap.size + 1 + 1 + 1, w.heap.size + 1 + 1, w.heap.size + 1, rfl, (heap5 w _ _ _ _ _).2.2.2.2.1, ⟨(heap5 w _ _ _ _ _).2.2.2.1, (heap5 w _ _ _ _ _).2.2.1, (heap5 w _ _ _ _ _).2.1⟩, by omega, by omega, (heap5 w _ _ _ _ _).1, (heap5 w _ _ _ _ _).2.2.2.2.2⟩
        · go_simp
          refine hK _ _ (fun _ => trivial) (fun _ => ?_)
          clear hK K
          try simp only [Act.put, List.setIfInBounds_toArray, List.set_cons_zero, List.set_cons_succ]
          refine AnyL.one 5 (by kernel_rfl) rfl (fun K hK => ?_)
          rw [if_pos (by rfl)]
          refine wp_make1 (.tmp 14) (.tmp 14) rfl elt8 rfl N rfl rfl (by first | rfl | exact Q1.out | exact Q2.out) (by first | rfl | exact Q1.out | exact Q2.out) (by have := Hn.out; have := Hm.out; omega) (by have := Hn.out; have := Hm.out; omega) ?_
          refine hK _ _ (fun _ => trivial) (fun _ => ?_)
          clear hK K
          try simp only [Act.put, List.setIfInBounds_toArray, List.set_cons_zero, List.set_cons_succ]
          refine AnyL.take 16 (v := ?_) rfl (by kernel_rfl) (by kernel_rfl) (by kernel_rfl) (by kernel_rfl) (fun _ _ _ h => h) (by assumption) (Or.inl ⟨by rfl, ?_⟩) ?_
          rotate_left
          · (intro w' hSw; (try dsimp only at hSw); go_simp; try (with_reducible rfl))
          try simp only [Act.put, List.setIfInBounds_toArray, List.set_cons_zero, List.set_cons_succ]
          refine AnyL.one 18 (by kernel_rfl) rfl (fun K hK => ?_)
          go_simp
          refine hK _ _ (fun h => (h rfl).elim) (fun hKq => ?_)
          clear hK K hKq
          try simp only [Act.put, List.setIfInBounds_toArray, List.set_cons_zero, List.set_cons_succ]
          refine AnyL.done (by kernel_rfl) ?_ _
          clear hS0
          go_wp2_with fail
          go_meet
          exact ⟨w.heap.size + 1 + 1 + 1, w.heap.size + 1 + 1 + 1 + 1, w.heap.size + 1 + 1, w.heap.size + 1, rfl, (heap5 w _ _ _ _ _).2.2.2.1, ⟨(heap5 w _ _ _ _ _).2.2.2.2.1, (heap5 w _ _ _ _ _).2.2.1, (heap5 w _ _ _ _ _).2.1⟩, by omega, by omega, (heap5 w _ _ _ _ _).1, (heap5 w _ _ _ _ _).2.2.2.2.2⟩
      · go_simp
        refine hK _ _ (fun _ => trivial) (fun _ => ?_)
        clear hK K
        try simp only [Act.put, List.setIfInBounds_toArray, List.set_cons_zero, List.set_cons_succ]
        refine AnyL.two 5 10 (by kernel_rfl) (AnyL.op 5 rfl (fun K hK => ?_)) (AnyL.op 10 rfl (fun K hK => ?_))
        · rw [if_pos (by rfl)]
          refine wp_make1 (.tmp 14) (.tmp 14) rfl elt8 rfl N rfl rfl (by first | rfl | exact Q1.out | exact Q2.out) (by first | rfl | exact Q1.out | exact Q2.out) (by have := Hn.out; have := Hm.out; omega) (by have := Hn.out; have := Hm.out; omega) ?_
          refine hK _ _ (fun _ => trivial) (fun _ => ?_)
          clear hK K
          try simp only [Act.put, List.setIfInBounds_toArray, List.set_cons_zero, List.set_cons_succ]
          refine AnyL.one 10 (by kernel_rfl) rfl (fun K hK => ?_)
          rw [if_pos (by rfl)]
          refine wp_make1 (.tmp 19) (.tmp 19) rfl elt8 rfl M rfl rfl (by first | rfl | exact Q1.out | exact Q2.out) (by first | rfl | exact Q1.out | exact Q2.out) (by have := Hn.out; have := Hm.out; omega) (by have := Hn.out; have := Hm.out; omega) ?_
          refine hK _ _ (fun _ => trivial) (fun _ => ?_)
          clear hK K
          try simp only [Act.put, List.setIfInBounds_toArray, List.set_cons_zero, List.set_cons_succ]
          refine AnyL.take 16 (v := ?_) rfl (by kernel_rfl) (by kernel_rfl) (by kernel_rfl) (by kernel_rfl) (fun _ _ _ h => h) (by assumption) (Or.inl ⟨by rfl, ?_⟩) ?_
          rotate_left
          · (intro w' hSw; (try dsimp only at hSw); go_simp; try (with_reducible rfl))
          try simp only [Act.put, List.setIfInBounds_toArray, List.set_cons_zero, List.set_cons_succ]
          refine AnyL.one 18 (by kernel_rfl) rfl (fun K hK => ?_)
          go_simp
          refine hK _ _ (fun h => (h rfl).elim) (fun hKq => ?_)
          clear hK K hKq
          try simp only [Act.put, List.setIfInBounds_toArray, List.set_cons_zero, List.set_cons_succ]
          refine AnyL.done (by kernel_rfl) ?_ _
          clear hS0
          go_wp2_with fail
          go_meet
          exact ⟨w.heap.size + 1 + 1, w.heap.size + 1 + 1 + 1, w.heap.size + 1 + 1 + 1 + 1, w.heap.size + 1, rfl, (heap5 w _ _ _ _ _).2.2.1, ⟨(heap5 w _ _ _ _ _).2.2.2.1, (heap5 w _ _ _ _ _).2.2.2.2.1, (heap5 w _ _ _ _ _).2.1⟩, by omega, by omega, (heap5 w _ _ _ _ _).1, (heap5 w _ _ _ _ _).2.2.2.2.2⟩
        · rw [if_pos (by rfl)]
          refine wp_make1 (.tmp 19) (.tmp 19) rfl elt8 rfl M rfl rfl (by first | rfl | exact Q1.out | exact Q2.out) (by first | rfl | exact Q1.out | exact Q2.out) (by have := Hn.out; have := Hm.out; omega) (by have := Hn.out; have := Hm.out; omega) ?_
          refine hK _ _ (fun _ => trivial) (fun _ => ?_)
          clear hK K
          try simp only [Act.put, List.setIfInBounds_toArray, List.set_cons_zero, List.set_cons_succ]
          refine AnyL.one 5 (by kernel_rfl) rfl (fun K hK => ?_)
          rw [if_pos (by rfl)]
          refine wp_make1 (.tmp 14) (.tmp 14) rfl elt8 rfl N rfl rfl (by first | rfl | exact Q1.out | exact Q2.out) (by first | rfl | exact Q1.out | exact Q2.out) (by have := Hn.out; have := Hm.out; omega) (by have := Hn.out; have := Hm.out; omega) ?_
          refine hK _ _ (fun _ => trivial) (fun _ => ?_)
          clear hK K
          try simp only [Act.put, List.setIfInBounds_toArray, List.set_cons_zero, List.set_cons_succ]
          refine AnyL.take 16 (v := ?_) rfl (by kernel_rfl) (by kernel_rfl) (by kernel_rfl) (by kernel_rfl) (fun _ _ _ h => h) (by assumption) (Or.inl ⟨by rfl, ?_⟩) ?_
          rotate_left
          · (intro w' hSw; (try dsimp only at hSw); go_simp; try (with_reducible rfl))
          try simp only [Act.put, List.setIfInBounds_toArray, List.set_cons_zero, List.set_cons_succ]
          refine AnyL.one 18 (by kernel_rfl) rfl (fun K hK => ?_)
          go_simp
          refine hK _ _ (fun h => (h rfl).elim) (fun hKq => ?_)
          clear hK K hKq
          try simp only [Act.put, List.setIfInBounds_toArray, List.set_cons_zero, List.set_cons_succ]
          refine AnyL.done (by kernel_rfl) ?_ _
          clear hS0
          go_wp2_with fail
          go_meet
          exact ⟨w.heap.size + 1 + 1, w.heap.size + 1 + 1 + 1 + 1, w.heap.size + 1 + 1 + 1, w.heap.size + 1, rfl, (heap5 w _ _ _ _ _).2.2.1, ⟨(heap5 w _ _ _ _ _).2.2.2.2.1, (heap5 w _ _ _ _ _).2.2.2.1, (heap5 w _ _ _ _ _).2.1⟩, by omega, by omega, (heap5 w _ _ _ _ _).1, (heap5 w _ _ _ _ _).2.2.2.2.2⟩
    · go_simp
      refine hK _ _ (fun _ => trivial) (fun _ => ?_)
      clear hK K
      try simp only [Act.put, List.setIfInBounds_toArray, List.set_cons_zero, List.set_cons_succ]
      refine AnyL.three 5 10 15 (by kernel_rfl) (AnyL.op 5 rfl (fun K hK => ?_)) (AnyL.op 10 rfl (fun K hK => ?_)) (AnyL.op 15 rfl (fun K hK => ?_))
      · rw [if_pos (by rfl)]
        refine wp_make1 (.tmp 14) (.tmp 14) rfl elt8 rfl N rfl rfl (by first | rfl | exact Q1.out | exact Q2.out) (by first | rfl | exact Q1.out | exact Q2.out) (by have := Hn.out; have := Hm.out; omega) (by have := Hn.out; have := Hm.out; omega) ?_
        refine hK _ _ (fun _ => trivial) (fun _ => ?_)
        clear hK K
        try simp only [Act.put, List.setIfInBounds_toArray, List.set_cons_zero, List.set_cons_succ]
        refine AnyL.two 10 15 (by kernel_rfl) (AnyL.op 10 rfl (fun K hK => ?_)) (AnyL.op 15 rfl (fun K hK => ?_))
        · rw [if_pos (by rfl)]
          refine wp_make1 (.tmp 19) (.tmp 19) rfl elt8 rfl M rfl rfl (by first | rfl | exact Q1.out | exact Q2.out) (by first | rfl | exact Q1.out | exact Q2.out) (by have := Hn.out; have := Hm.out; omega) (by have := Hn.out; have := Hm.out; omega) ?_
          refine hK _ _ (fun _ => trivial) (fun _ => ?_)
          clear hK K
          try simp only [Act.put, List.setIfInBounds_toArray, List.set_cons_zero, List.set_cons_succ]
          refine AnyL.one 15 (by kernel_rfl) rfl (fun K hK => ?_)
          rw [if_pos (by rfl)]
          refine wp_make1 (.tmp 24) (.tmp 24) rfl elt8 rfl M rfl rfl (by first | rfl | exact Q1.out | exact Q2.out) (by first | rfl | exact Q1.out | exact Q2.out) (by have := Hn.out; have := Hm.out; omega) (by have := Hn.out; have := Hm.out; omega) ?_
          refine hK _ _ (fun _ => trivial) (fun _ => ?_)
          clear hK K
          try simp only [Act.put, List.setIfInBounds_toArray, List.set_cons_zero, List.set_cons_succ]
          refine AnyL.take 16 (v := ?_) rfl (by kernel_rfl) (by kernel_rfl) (by kernel_rfl) (by kernel_rfl) (fun _ _ _ h => h) (by assumption) (Or.inl ⟨by rfl, ?_⟩) ?_
          rotate_left
          · (intro w' hSw; (try dsimp only at hSw); go_simp; try (with_reducible rfl))
          try simp only [Act.put, List.setIfInBounds_toArray, List.set_cons_zero, List.set_cons_succ]
          refine AnyL.one 18 (by kernel_rfl) rfl (fun K hK => ?_)
          go_simp
          refine hK _ _ (fun h => (h rfl).elim) (fun hKq => ?_)
          clear hK K hKq
          try simp only [Act.put, List.setIfInBounds_toArray, List.set_cons_zero, List.set_cons_succ]
          refine AnyL.done (by kernel_rfl) ?_ _
          clear hS0
          go_wp2_with fail
          go_meet
          exact ⟨w.heap.size + 1, w.heap.size + 1 + 1, w.heap.size + 1 + 1 + 1, w.heap.size + 1 + 1 + 1 + 1, rfl, (heap5 w _ _ _ _ _).2.1, ⟨(heap5 w _ _ _ _ _).2.2.1, (heap5 w _ _ _ _ _).2.2.2.1, (heap5 w _ _ _ _ _).2.2.2.2.1⟩, by omega, by omega, (heap5 w _ _ _ _ _).1, (heap5 w _ _ _ _ _).2.2.2.2.2⟩
        · rw [if_pos (by rfl)]
          refine wp_make1 (.tmp 24) (.tmp 24) rfl elt8 rfl M rfl rfl (by first | rfl | exact Q1.out | exact Q2.out) (by first | rfl | exact Q1.out | exact Q2.out) (by have := Hn.out; have := Hm.out; omega) (by have := Hn.out; have := Hm.out; omega) ?_
          refine hK _ _ (fun _ => trivial) (fun _ => ?_)
          clear hK K
          try simp only [Act.put, List.setIfInBounds_toArray, List.set_cons_zero, List.set_cons_succ]
          refine AnyL.one 10 (by kernel_rfl) rfl (fun K hK => ?_)
          rw [if_pos (by rfl)]
          refine wp_make1 (.tmp 19) (.tmp 19) rfl elt8 rfl M rfl rfl (by first | rfl | exact Q1.out | exact Q2.out) (by first | rfl | exact Q1.out | exact Q2.out) (by have := Hn.out; have := Hm.out; omega) (by have := Hn.out; have := Hm.out; omega) ?_
          refine hK _ _ (fun _ => trivial) (fun _ => ?_)
          clear hK K
          try simp only [Act.put, List.setIfInBounds_toArray, List.set_cons_zero, List.set_cons_succ]
          refine AnyL.take 16 (v := ?_) rfl (by kernel_rfl) (by kernel_rfl) (by kernel_rfl) (by kernel_rfl) (fun _ _ _ h => h) (by assumption) (Or.inl ⟨by rfl, ?_⟩) ?_
          rotate_left
          · (intro w' hSw; (try dsimp only at hSw); go_simp; try (with_reducible rfl))
          try simp only [Act.put, List.setIfInBounds_toArray, List.set_cons_zero, List.set_cons_succ]
          refine AnyL.one 18 (by kernel_rfl) rfl (fun K hK => ?_)
          go_simp
          refine hK _ _ (fun h => (h rfl).elim) (fun hKq => ?_)
          clear hK K hKq
          try simp only [Act.put, List.setIfInBounds_toArray, List.set_cons_zero, List.set_cons_succ]
          refine AnyL.done (by kernel_rfl) ?_ _
          clear hS0
          go_wp2_with fail
          go_meet
          exact ⟨w.heap.size + 1, w.heap.size + 1 + 1, w.heap.size + 1 + 1 + 1 + 1, w.heap.size + 1 + 1 + 1, rfl, (heap5 w _ _ _ _ _).2.1, ⟨(heap5 w _ _ _ _ _).2.2.1, (heap5 w _ _ _ _ _).2.2.2.2.1, (heap5 w _ _ _ _ _).2.2.2.1⟩, by omega, by omega, (heap5 w _ _ _ _ _).1, (heap5 w _ _ _ _ _).2.2.2.2.2⟩
      · rw [if_pos (by rfl)]
        refine wp_make1 (.tmp 19) (.tmp 19) rfl elt8 rfl M rfl rfl (by first | rfl | exact Q1.out | exact Q2.out) (by first | rfl | exact Q1.out | exact Q2.out) (by have := Hn.out; have := Hm.out; omega) (by have := Hn.out; have := Hm.out; omega) ?_
        refine hK _ _ (fun _ => trivial) (fun _ => ?_)
        clear hK K
        try simp only [Act.put, List.setIfInBounds_toArray, List.set_cons_zero, List.set_cons_succ]
        refine AnyL.two 5 15 (by kernel_rfl) (AnyL.op 5 rfl (fun K hK => ?_)) (AnyL.op 15 rfl (fun K hK => ?_))
        · rw [if_pos (by rfl)]
          refine wp_make1 (.tmp 14) (.tmp 14) rfl elt8 rfl N rfl rfl (by first | rfl | exact Q1.out | exact Q2.out) (by first | rfl | exact Q1.out | exact Q2.out) (by have := Hn.out; have := Hm.out; omega) (by have := Hn.out; have := Hm.out; omega) ?_
          refine hK _ _ (fun _ => trivial) (fun _ => ?_)
          clear hK K
          try simp only [Act.put, List.setIfInBounds_toArray, List.set_cons_zero, List.set_cons_succ]
          refine AnyL.one 15 (by kernel_rfl) rfl (fun K hK => ?_)
          rw [if_pos (by rfl)]
          refine wp_make1 (.tmp 24) (.tmp 24) rfl elt8 rfl M rfl rfl (by first | rfl | exact Q1.out | exact Q2.out) (by first | rfl | exact Q1.out | exact Q2.out) (by have := Hn.out; have := Hm.out; omega) (by have := Hn.out; have := Hm.out; omega) ?_
          refine hK _ _ (fun _ => trivial) (fun _ => ?_)
          clear hK K
          try simp only [Act.put, List.setIfInBounds_toArray, List.set_cons_zero, List.set_cons_succ]
          refine AnyL.take 16 (v := ?_) rfl (by kernel_rfl) (by kernel_rfl) (by kernel_rfl) (by kernel_rfl) (fun _ _ _ h => h) (by assumption) (Or.inl ⟨by rfl, ?_⟩) ?_
          rotate_left
          · (intro w' hSw; (try dsimp only at hSw); go_simp; try (with_reducible rfl))
          try simp only [Act.put, List.setIfInBounds_toArray, List.set_cons_zero, List.set_cons_succ]
          refine AnyL.one 18 (by kernel_rfl) rfl (fun K hK => ?_)
          go_simp
          refine hK _ _ (fun h => (h rfl).elim) (fun hKq => ?_)
          clear hK K hKq
          try simp only [Act.put, List.setIfInBounds_toArray, List.set_cons_zero, List.set_cons_succ]
          refine AnyL.done (by kernel_rfl) ?_ _
          clear hS0
          go_wp2_with fail
          go_meet
          exact ⟨w.heap.size + 1, w.heap.size + 1 + 1 + 1, w.heap.size + 1 + 1, w.heap.size + 1 + 1 + 1 + 1, rfl, (heap5 w _ _ _ _ _).2.1, ⟨(heap5 w _ _ _ _ _).2.2.2.1, (heap5 w _ _ _ _ _).2.2.1, (heap5 w _ _ _ _ _).2.2.2.2.1⟩, by omega, by omega, (heap5 w _ _ _ _ _).1, (heap5 w _ _ _ _ _).2.2.2.2.2⟩
        · rw [if_pos (by rfl)]
          refine wp_make1 (.tmp 24) (.tmp 24) rfl elt8 rfl M rfl rfl (by first | rfl | exact Q1.out | exact Q2.out) (by first | rfl | exact Q1.out | exact Q2.out) (by have := Hn.out; have := Hm.out; omega) (by have := Hn.out; have := Hm.out; omega) ?_
          refine hK _ _ (fun _ => trivial) (fun _ => ?_)
          clear hK K
          try simp only [Act.put, List.setIfInBounds_toArray, List.set_cons_zero, List.set_cons_succ]
          refine AnyL.one 5 (by kernel_rfl) rfl (fun K hK => ?_)
          rw [if_pos (by rfl)]
          refine wp_make1 (.tmp 14) (.tmp 14) rfl elt8 rfl N rfl rfl (by first | rfl | exact Q1.out | exact Q2.out) (by first | rfl | exact Q1.out | exact Q2.out) (by have := Hn.out; have := Hm.out; omega) (by have := Hn.out; have := Hm.out; omega) ?_
          refine hK _ _ (fun _ => trivial) (fun _ => ?_)
          clear hK K
          try simp only [Act.put, List.setIfInBounds_toArray, List.set_cons_zero, List.set_cons_succ]
          refine AnyL.take 16 (v := ?_) rfl (by kernel_rfl) (by kernel_rfl) (by kernel_rfl) (by kernel_rfl) (fun _ _ _ h => h) (by assumption) (Or.inl ⟨by rfl, ?_⟩) ?_
          rotate_left
          · (intro w' hSw; (try dsimp only at hSw); go_simp; try (with_reducible rfl))
          try simp only [Act.put, List.setIfInBounds_toArray, List.set_cons_zero, List.set_cons_succ]
          refine AnyL.one 18 (by kernel_rfl) rfl (fun K hK => ?_)
          go_simp
          refine hK _ _ (fun h => (h rfl).elim) (fun hKq => ?_)
          clear hK K hKq
          try simp only [Act.put, List.setIfInBounds_toArray, List.set_cons_zero, List.set_cons_succ]
          refine AnyL.done (by kernel_rfl) ?_ _
          clear hS0
          go_wp2_with fail
          go_meet
          exact ⟨w.heap.size + 1, w.heap.size + 1 + 1 + 1 + 1, w.heap.size + 1 + 1, w.heap.size + 1 + 1 + 1, rfl, (heap5 w _ _ _ _ _).2.1, ⟨(heap5 w _ _ _ _ _).2.2.2.2.1, (heap5 w _ _ _ _ _).2.2.1, (heap5 w _ _ _ _ _).2.2.2.1⟩, by omega, by omega, (heap5 w _ _ _ _ _).1, (heap5 w _ _ _ _ _).2.2.2.2.2⟩
      · rw [if_pos (by rfl)]
        refine wp_make1 (.tmp 24) (.tmp 24) rfl elt8 rfl M rfl rfl (by first | rfl | exact Q1.out | exact Q2.out) (by first | rfl | exact Q1.out | exact Q2.out) (by have := Hn.out; have := Hm.out; omega) (by have := Hn.out; have := Hm.out; omega) ?_
        refine hK _ _ (fun _ => trivial) (fun _ => ?_)
        clear hK K
        try simp only [Act.put, List.setIfInBounds_toArray, List.set_cons_zero, List.set_cons_succ]
        refine AnyL.two 5 10 (by kernel_rfl) (AnyL.op 5 rfl (fun K hK => ?_)) (AnyL.op 10 rfl (fun K hK => ?_))
        · rw [if_pos (by rfl)]
          refine wp_make1 (.tmp 14) (.tmp 14) rfl elt8 rfl N rfl rfl (by first | rfl | exact Q1.out | exact Q2.out) (by first | rfl | exact Q1.out | exact Q2.out) (by have := Hn.out; have := Hm.out; omega) (by have := Hn.out; have := Hm.out; omega) ?_
          refine hK _ _ (fun _ => trivial) (fun _ => ?_)
          clear hK K
          try simp only [Act.put, List.setIfInBounds_toArray, List.set_cons_zero, List.set_cons_succ]
          refine AnyL.one 10 (by kernel_rfl) rfl (fun K hK => ?_)
          rw [if_pos (by rfl)]
          refine wp_make1 (.tmp 19) (.tmp 19) rfl elt8 rfl M rfl rfl (by first | rfl | exact Q1.out | exact Q2.out) (by first | rfl | exact Q1.out | exact Q2.out) (by have := Hn.out; have := Hm.out; omega) (by have := Hn.out; have := Hm.out; omega) ?_
          refine hK _ _ (fun _ => trivial) (fun _ => ?_)
          clear hK K
          try simp only [Act.put, List.setIfInBounds_toArray, List.set_cons_zero, List.set_cons_succ]
          refine AnyL.take 16 (v := ?_) rfl (by kernel_rfl) (by kernel_rfl) (by kernel_rfl) (by kernel_rfl) (fun _ _ _ h => h) (by assumption) (Or.inl ⟨by rfl, ?_⟩) ?_
          rotate_left
          · (intro w' hSw; (try dsimp only at hSw); go_simp; try (with_reducible rfl))
          try simp only [Act.put, List.setIfInBounds_toArray, List.set_cons_zero, List.set_cons_succ]
          refine AnyL.one 18 (by kernel_rfl) rfl (fun K hK => ?_)
          go_simp
          refine hK _ _ (fun h => (h rfl).elim) (fun hKq => ?_)
          clear hK K hKq
          try simp only [Act.put, List.setIfInBounds_toArray, List.set_cons_zero, List.set_cons_succ]
          refine AnyL.done (by kernel_rfl) ?_ _
          clear hS0
          go_wp2_with fail
          go_meet
          exact ⟨w.heap.size + 1, w.heap.size + 1 + 1 + 1, w.heap.size + 1 + 1 + 1 + 1, w.heap.size + 1 + 1, rfl, (heap5 w _ _ _ _ _).2.1, ⟨(heap5 w _ _ _ _ _).2.2.2.1, (heap5 w _ _ _ _ _).2.2.2.2.1, (heap5 w _ _ _ _ _).2.2.1⟩, by omega, by omega, (heap5 w _ _ _ _ _).1, (heap5 w _ _ _ _ _).2.2.2.2.2⟩
        · rw [if_pos (by rfl)]
          refine wp_make1 (.tmp 19) (.tmp 19) rfl elt8 rfl M rfl rfl (by first | rfl | exact Q1.out | exact Q2.out) (by first | rfl | exact Q1.out | exact Q2.out) (by have := Hn.out; have := Hm.out; omega) (by have := Hn.out; have := Hm.out; omega) ?_
          refine hK _ _ (fun _ => trivial) (fun _ => ?_)
          clear hK K
          try simp only [Act.put, List.setIfInBounds_toArray, List.set_cons_zero, List.set_cons_succ]
          refine AnyL.one 5 (by kernel_rfl) rfl (fun K hK => ?_)
          rw [if_pos (by rfl)]
          refine wp_make1 (.tmp 14) (.tmp 14) rfl elt8 rfl N rfl rfl (by first | rfl | exact Q1.out | exact Q2.out) (by first | rfl | exact Q1.out | exact Q2.out) (by have := Hn.out; have := Hm.out; omega) (by have := Hn.out; have := Hm.out; omega) ?_
          refine hK _ _ (fun _ => trivial) (fun _ => ?_)
          clear hK K
          try simp only [Act.put, List.setIfInBounds_toArray, List.set_cons_zero, List.set_cons_succ]
          refine AnyL.take 16 (v := ?_) rfl (by kernel_rfl) (by kernel_rfl) (by kernel_rfl) (by kernel_rfl) (fun _ _ _ h => h) (by assumption) (Or.inl ⟨by rfl, ?_⟩) ?_
          rotate_left
          · (intro w' hSw; (try dsimp only at hSw); go_simp; try (with_reducible rfl))
          try simp only [Act.put, List.setIfInBounds_toArray, List.set_cons_zero, List.set_cons_succ]
          refine AnyL.one 18 (by kernel_rfl) rfl (fun K hK => ?_)
          go_simp
          refine hK _ _ (fun h => (h rfl).elim) (fun hKq => ?_)
          clear hK K hKq
          try simp only [Act.put, List.setIfInBounds_toArray, List.set_cons_zero, List.set_cons_succ]
          refine AnyL.done (by kernel_rfl) ?_ _
          clear hS0
          go_wp2_with fail
          go_meet
          exact ⟨w.heap.size + 1, w.heap.size + 1 + 1 + 1 + 1, w.heap.size + 1 + 1 + 1, w.heap.size + 1 + 1, rfl, (heap5 w _ _ _ _ _).2.1, ⟨(heap5 w _ _ _ _ _).2.2.2.2.1, (heap5 w _ _ _ _ _).2.2.2.1, (heap5 w _ _ _ _ _).2.2.1⟩, by omega, by omega, (heap5 w _ _ _ _ _).1, (heap5 w _ _ _ _ _).2.2.2.2.2⟩
  case rest =>
    obtain ⟨fb, y, u, z, rfl, g1, ⟨gy, gu, gz⟩, ⟨yu, yz, uz⟩, ⟨l0, l1, l2, l3⟩, g5, g6⟩ := hcut
    obtain ⟨f, hf⟩ : ∃ f : Nat → Int, f = fun _ => v := ⟨_, rfl⟩
    have hfv : ∀ k, v = f k := fun k => by rw [hf]
    have hfull : ∀ n, fillTo f n n = List.replicate n v := fun n => by rw [fillTo_full, hf, List.map_const', List.length_range]
    obtain ⟨Fc, hFc⟩ : ∃ Fc : Array Value, Fc = #[.int .i64 W, .int .i64 H, .slice (some ⟨y, 0, none⟩) N N, .slice (some ⟨u, 0, none⟩) M M, .slice (some ⟨z, 0, none⟩) M M] := ⟨_, rfl⟩
    rw [← hFc] at g1
    have hFs : (Tryz.prog.info? 54).map (·.size) = some Fc.size := by rw [hFc]; kernel_rfl
    have hF5 : Fc.size = 5 := by rw [hFc]; rfl
    have hFo : Fc.all (·.oneCell') = true := by rw [hFc]; simp [Value.oneCell']
    have hF2 : Fc[2]? = some (.slice (some ⟨y, 0, none⟩) N N) := by rw [hFc]; rfl
    have hF3 : Fc[3]? = some (.slice (some ⟨u, 0, none⟩) M M) := by rw [hFc]; rfl
    have hF4 : Fc[4]? = some (.slice (some ⟨z, 0, none⟩) M M) := by rw [hFc]; rfl
    have HFs := Lib.hid hFs
    have HF5 := Lib.hid hF5
    have HFo := Lib.hid hFo
    have HF2 := Lib.hid hF2
    have HF3 := Lib.hid hF3
    have HF4 := Lib.hid hF4
    have HFc := Lib.hid hFc
    clear hFs hF5 hFo hF2 hF3 hF4 hFc
    have hfy : fb ≠ y := block_ne g1 gy (by decide)
    have hfu : fb ≠ u := block_ne g1 gu (by decide)
    have hfz : fb ≠ z := block_ne g1 gz (by decide)
    rw [u8s_replicate, ← fillTo_zero f] at gy gu gz
    have G1 := Lib.hid g1
    have GY := Lib.hid gy
    have GU := Lib.hid gu
    have GZ := Lib.hid gz
    have G5 := Lib.hid g5
    have G6 := Lib.hid g6
    have HV := Lib.hid hfv
    have HF := Lib.hid hfull
    have hn := Hn.out
    have hm := Hm.out
    clear g1 gy gu gz g5 g6 hfv hfull hf
    go_wp2
    go_loopw [8] (fun q wr => ∃ k : Nat, k ≤ N ∧ q = .int .i64 k ∧ wr.heap[y]? = some (.cells (u8s (fillTo f N k)) 5 (0, 0)) ∧ Only [y] wc wr) (fun q _ => N - (intOf q).toNat)
    case atStart => exact ⟨0, Nat.zero_le _, rfl, GY.out, Only.refl _ _⟩
    case round =>
      obtain ⟨k, hk, rfl, hc, ho⟩ := hrel
      have c1 : wr.cell? ⟨fb, 2, none⟩ = some (.slice (some ⟨y, 0, none⟩) N N) := by rw [cells_of (ho.heap G1.out (by simpa using hfy))]; exact HF2.out
      by_cases hlt : k < N
      · have c2 : wr.cell? ⟨y, k, none⟩ = some (.int .u8 ((fillTo f N k).getD k 0)) := by rw [cells_of hc, u8s_at _ _ (by rw [fillTo_length]; exact hlt)]
        have z2 := free_of hc k
        have C2 := Lib.hid (heap_set_same (i := k) (.int .u8 v) hc)
        have O2 := Lib.hid (ho.setCell (p := ⟨y, k, none⟩) (.inl (by simp)) (.int .u8 v))
        clear hc ho
        go_wp2
        go_roundw
        case rel => exact ⟨k + 1, by omega, by go_num, by have := C2.out; rw [u8s_setIf, fillTo_set f N k v (HV.out k)] at this; exact this, O2.out⟩
        case measure => simp [intOf] <;> omega
      · obtain rfl : k = N := by omega
        rw [HF.out] at hc
        have HC := Lib.hid hc
        have HO := Lib.hid ho
        have GU2 := Lib.hid (ho.heap GU.out (by simpa using yu.symm))
        have GZ2 := Lib.hid (ho.heap GZ.out (by simpa using yz.symm))
        have G12 := Lib.hid (ho.heap G1.out (by simpa using hfy))
        have G52 := Lib.hid (ho.heap G5.out (by simp; omega))
        clear hc ho GU GZ G1 G5 GY
        generalize wr = wq at *
        go_wp2
        go_loopw [9] (fun q wr => ∃ k : Nat, k ≤ M ∧ q = .int .i64 k ∧ wr.heap[u]? = some (.cells (u8s (fillTo f M k)) 5 (0, 0)) ∧ wr.heap[z]? = some (.cells (u8s (fillTo f M k)) 5 (0, 0)) ∧ Only [u, z] wq wr) (fun q _ => M - (intOf q).toNat)
        case atStart => exact ⟨0, Nat.zero_le _, rfl, GU2.out, GZ2.out, Only.refl _ _⟩
        case round =>
          obtain ⟨k, hk, rfl, hcu, hcz, ho⟩ := hrel
          have hf1 := ho.heap G12.out (by simp; exact ⟨hfu, hfz⟩)
          have c1 : wr.cell? ⟨fb, 3, none⟩ = some (.slice (some ⟨u, 0, none⟩) M M) := by rw [cells_of hf1]; exact HF3.out
          have c3 : wr.cell? ⟨fb, 4, none⟩ = some (.slice (some ⟨z, 0, none⟩) M M) := by rw [cells_of hf1]; exact HF4.out
          by_cases hlt : k < M
          · have c2 : wr.cell? ⟨u, k, none⟩ = some (.int .u8 ((fillTo f M k).getD k 0)) := by rw [cells_of hcu, u8s_at _ _ (by rw [fillTo_length]; exact hlt)]
            have c4 : wr.cell? ⟨z, k, none⟩ = some (.int .u8 ((fillTo f M k).getD k 0)) := by rw [cells_of hcz, u8s_at _ _ (by rw [fillTo_length]; exact hlt)]
            have z2 := free_of hcu k
            have z4 := free_of hcz k
            have CU := Lib.hid (heap_set_other (b := z) (i := k) (.int .u8 v) (heap_set_same (i := k) (.int .u8 v) hcu) uz)
            have CZ := Lib.hid (heap_set_same (i := k) (.int .u8 v) (heap_set_other (b := u) (i := k) (.int .u8 v) hcz uz.symm))
            have O2 := Lib.hid ((ho.setCell (p := ⟨u, k, none⟩) (.inl (by simp)) (.int .u8 v)).setCell (p := ⟨z, k, none⟩) (.inl (by simp)) (.int .u8 v))
            clear hcu hcz ho hf1
            go_wp2
            go_roundw
            case rel => exact ⟨k + 1, by omega, by go_num, by have := CU.out; rw [u8s_setIf, fillTo_set f M k v (HV.out k)] at this; exact this, by have := CZ.out; rw [u8s_setIf, fillTo_set f M k v (HV.out k)] at this; exact this, O2.out⟩
            case measure => simp [intOf] <;> omega
          · obtain rfl : k = M := by omega
            rw [HF.out] at hcu hcz
            have CY := Lib.hid (ho.heap HC.out (by simp; exact ⟨yu, yz⟩))
            have CU := Lib.hid hcu
            have CZ := Lib.hid hcz
            have F1 := Lib.hid hf1
            have F5 := Lib.hid (ho.heap G52.out (by simp; omega))
            have HO2 : Hid (Only [] w wr) := Lib.hid ((G6.out.trans' HO.out (fun i hi => .inr (by simp only [List.mem_singleton] at hi; omega))).trans' ho (fun i hi => .inr (by simp only [List.mem_cons, List.not_mem_nil, or_false] at hi; omega)))
            clear hcu hcz ho hf1 HO HC G6
            go_wp2_with (first
              | (with_reducible refine wpList_load_row rfl _ _ rfl _ rfl _ _ _ _ F1.out Tryz.underlying54 rfl HFs.out ?_)
              | (refine wpList_store_agg rfl _ _ _ rfl w.heap.size Fc rfl rfl F5.out HFs.out (by rw [HF5.out]; rfl) HFo.out ?_))
            intro w9 hw9 ho9
            have W9 := Lib.hid hw9
            have O9 := Lib.hid ho9
            clear hw9 ho9
            go_wp2
            refine ret_cell rfl _ rfl W9.out Tryz.underlying54 rfl HFs.out rfl ?_
            have o9 := O9.out
            rw [HFc.out]
            refine ⟨_, _, _, rfl, ⟨y, _, by rw [List.length_replicate], fun i hi => ?_⟩, ⟨u, _, by rw [List.length_replicate], fun i hi => ?_⟩, ⟨z, _, by rw [List.length_replicate], fun i hi => ?_⟩, HO2.out.trans' o9 (fun i hi => .inr (by simp only [List.mem_singleton] at hi; omega))⟩
            · rw [cells_of (o9.heap CY.out (by simp; omega)), u8s_at _ _ hi]
            · rw [cells_of (o9.heap CU.out (by simp; omega)), u8s_at _ _ hi]
            · rw [cells_of (o9.heap CZ.out (by simp; omega)), u8s_at _ _ hi]
end Go.Proofs.YtcmehedjdfopdaaGreat
