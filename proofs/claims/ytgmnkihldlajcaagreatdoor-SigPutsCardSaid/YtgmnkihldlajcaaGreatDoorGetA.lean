/-
  The walks over bins.Get's taker: a bin, a bin by bypass.
-/
import Derived.Test.YtgmnkihldlajcaaGreatDoorPutA
import Derived.StillTailTactics
import Derived.Deep.RegionHeld3
import Derived.Deep.RegionLaw
import Derived.Deep.AppendLies
namespace Go.Proofs.YtgmnkihldlajcaaGreatDoor
open Go.RowKit

theorem elt2 : Elt Tryz.prog 134 164 (.agg #[.int .i64 0, .int .i64 0]) 2 16 := ⟨Tryz.underlying134, by kernel_rfl, rfl, by decide⟩
theorem Dec.can_of_bin {d d1 : Dec} {c x : Int} (h : d.bin c = (x, 0, d1)) : 0 ≤ c ∧ c.toNat < d.st.length := by
  unfold Dec.bin at h
  by_cases hc : d.can c = true
  · unfold Dec.can at hc
    rw [Bool.and_eq_true] at hc
    have := hc.2
    simp at this
    omega
  · rw [if_neg hc] at h
    simp at h
theorem dec_state (b tb sb : Nat) (d : Dec) (c : Int) (w : World) (hd : DecIs w b tb sb d) (h0 : 0 ≤ c) (h1 : c.toNat < d.st.length) :
    Calls Tryz.prog 110 #[.pointer (some ⟨b, 0, none⟩), .int .i64 c] w fun r w' => r = .returned (.int .i64 (d.st.getD c.toNat 0)) ∧ w' = w := by
  obtain ⟨i, rfl⟩ := Int.eq_ofNat_of_zero_le h0
  rw [Int.toNat_natCast] at h1 ⊢
  have c1 : w.cell? ⟨b, 1, none⟩ = some (.slice (some ⟨sb, 0, none⟩) d.st.length d.st.length) := by rw [cells_of hd.cells]; rfl
  have c2 : w.cell? ⟨sb, i, none⟩ = some (.int .i64 (d.st.getD i 0)) := by rw [cells_of hd.sts]; exact ints_at _ _ h1
  obtain ⟨L, hL⟩ : ∃ L, L = d.st.length := ⟨_, rfl⟩
  rw [← hL] at c1 h1
  clear hd hL
  go_enter Tryz.func110, Tryz.ntmps110
  go_wp2
  go_ret
  exact ⟨rfl, rfl⟩

/-- A taker at block tk over the decoder d; wM is the world in which it was made. -/
structure TakeAt (w0 wM w : World) (b tb sb tk : Nat) (sv : Value) (n : Nat) (el inc : Int) (k0 k1 k2 k3 : Value) (d : Dec) : Prop where
  dec : DecAt w0 w b tb sb d
  cells : w.heap[tk]? = some (.cells #[.pointer (some ⟨b, 0, none⟩), k0, k1, k2, k3, sv, .int .i64 el, .int .i64 inc] 136 (0, 0))
  rows : ∃ xs, w.ownsRow wM.heap.size 164 2 sv n xs
  on : Only [b, sb, tk] wM w
  lb : b < wM.heap.size
  ltb : tb < wM.heap.size
  ls : sb < wM.heap.size
  lt : tk < wM.heap.size
  base : w0.heap.size ≤ tk
/-- The decoder has gone on. -/
theorem TakeAt.go {w0 wM w w' : World} {b tb sb tk : Nat} {sv : Value} {n : Nat} {el inc : Int} {k0 k1 k2 k3 : Value} {d d' : Dec} (h : TakeAt w0 wM w b tb sb tk sv n el inc k0 k1 k2 k3 d) (hd : DecAt w0 w' b tb sb d') (ho : Only [b, sb] w w') : TakeAt w0 wM w' b tb sb tk sv n el inc k0 k1 k2 k3 d' := by
  have h1 := h.dec.is.cells
  have h2 := h.dec.is.sts
  have n1 : tk ≠ b := block_type h.cells h1 (by decide)
  have n2 : tk ≠ sb := block_type h.cells h2 (by decide)
  obtain ⟨xs, hx⟩ := h.rows
  refine ⟨hd, ho.heap h.cells (by simp [n1, n2]), ⟨xs, ownsRow_of_block hx fun g hg => ?_⟩, h.on.trans' ho (fun i hi => .inl (by simp at hi ⊢; omega)), h.lb, h.ltb, h.ls, h.lt, h.base⟩
  obtain ⟨cur, hc⟩ := ownsRow_block hx hg
  have n3 : g ≠ b := block_type hc h1 (by decide)
  have n4 : g ≠ sb := block_type hc h2 (by decide)
  exact ho.block g (lt_of_block hc) (by simp [n3, n4])

theorem TakeAt.drewN {w0 wM w : World} {b tb sb tk : Nat} {sv : Value} {n : Nat} {el inc : Int} {k0 k1 k2 k3 : Value} {d : Dec} (h : TakeAt w0 wM w b tb sb tk sv n el inc k0 k1 k2 k3 d) (m : Nat) : TakeAt w0 wM (w.drewN m) b tb sb tk sv n el inc k0 k1 k2 k3 d :=
  ⟨h.dec.drewN m, h.cells, by obtain ⟨xs, hx⟩ := h.rows; exact ⟨xs, ownsRow_of_block hx (fun _ _ => rfl)⟩, h.on.drewN m, h.lb, h.ltb, h.ls, h.lt, h.base⟩
theorem TakeAt.drew {w0 wM w : World} {b tb sb tk : Nat} {sv : Value} {n : Nat} {el inc : Int} {k0 k1 k2 k3 : Value} {d : Dec} (h : TakeAt w0 wM w b tb sb tk sv n el inc k0 k1 k2 k3 d) : TakeAt w0 wM w.drew b tb sb tk sv n el inc k0 k1 k2 k3 d := h.drewN 1

/-- One more state kept. -/
theorem TakeAt.pushed {w0 wM w w2 : World} {b tb sb tk : Nat} {sv sv' : Value} {n : Nat} {el inc : Int} {k0 k1 k2 k3 : Value} {d : Dec} {x : Obj} {ys : List Value} (h : TakeAt w0 wM w b tb sb tk sv n el inc k0 k1 k2 k3 d)
    (ho : w2.ownsRow wM.heap.size 164 2 sv' (n + 1) ys) (hg : (w.alloc x).drew.grownBy w2 sv.ownBlock) : TakeAt w0 wM (w2.setCell ⟨tk, 5, none⟩ sv') b tb sb tk sv' (n + 1) el inc k0 k1 k2 k3 d := by
  obtain ⟨xs, hx⟩ := h.rows
  have hO : ∀ g, sv.ownBlock = some g → wM.heap.size ≤ g ∧ g ≠ tk ∧ g ≠ b ∧ g ≠ sb ∧ g ≠ tb := fun g hg => by
    obtain ⟨c, hc⟩ := ownsRow_block hx hg
    refine ⟨?_, block_type hc h.cells (by decide), block_type hc h.dec.is.cells (by decide), block_type hc h.dec.is.sts (by decide), block_type hc h.dec.is.tab (by decide)⟩
    rcases hx.2 with ⟨rfl, _⟩ | ⟨g', cap, cur, rfl, hb, _⟩
    · simp [Value.ownBlock] at hg
    · simp [Value.ownBlock] at hg; subst hg; exact hb
  have o1 : Only sv.ownBlock.toList w w2 := (((Only.refl _ w).alloc x).drew).grown hg (fun k hk => .inl (by simp [hk]))
  have hk : tk ∉ sv.ownBlock.toList := fun hi => (hO tk (by simpa using hi)).2.1 rfl
  have hcells := o1.heap h.cells hk
  have o2 : Only (tk :: sv.ownBlock.toList) w (w2.setCell ⟨tk, 5, none⟩ sv') := (o1.mono (fun i hi => by simp [hi])).setCell (.inl (by simp)) _
  have n1 : tk ≠ b := block_type h.cells h.dec.is.cells (by decide)
  have n2 : tk ≠ sb := block_type h.cells h.dec.is.sts (by decide)
  have n3 : tk ≠ tb := block_type h.cells h.dec.is.tab (by decide)
  have hM := h.base
  have hlt := h.lt
  refine ⟨h.dec.only o2 ?_ ?_ ?_ ?_, ?_, ⟨ys, ?_⟩, h.on.trans' o2 ?_, h.lb, h.ltb, h.ls, h.lt, h.base⟩
  · intro i hi
    simp only [List.mem_cons, Option.mem_toList] at hi
    rcases hi with rfl | hi
    · exact hM
    · have := (hO i hi).1; omega
  · simp only [List.mem_cons, Option.mem_toList, not_or]; exact ⟨Ne.symm n1, fun hi => (hO b hi).2.2.1 rfl⟩
  · simp only [List.mem_cons, Option.mem_toList, not_or]; exact ⟨Ne.symm n3, fun hi => (hO tb hi).2.2.2.2 rfl⟩
  · simp only [List.mem_cons, Option.mem_toList, not_or]; exact ⟨Ne.symm n2, fun hi => (hO sb hi).2.2.2.1 rfl⟩
  · rw [heap_set_same _ hcells]; rfl
  · refine ownsRow_of_block ho fun g hgo => ?_
    obtain ⟨c, hc⟩ := ownsRow_block ho hgo
    exact (heap_set_other _ hc (block_type hc hcells (by decide))).trans hc.symm
  · intro i hi
    simp only [List.mem_cons, Option.mem_toList] at hi
    rcases hi with rfl | hi
    · exact .inl (by simp)
    · exact .inr (hO i hi).1

set_option maxRecDepth 100000 in
set_option maxHeartbeats 800000 in
theorem take_by0 {w0 w : World} {b tb sb tk : Nat} {d d1 : Dec} {x : Int} (h : DecAt w0 w b tb sb d) (c0 : w.cell? ⟨tk, 0, none⟩ = some (.pointer (some ⟨b, 0, none⟩))) (hd : d.bypass = (x, 0, d1)) (hs : d.s.size ≤ 140737488355328) :
    Calls Tryz.prog 91 #[.pointer (some ⟨tk, 0, none⟩)] w fun r w' => r = .returned (.int .i64 x) ∧ DecAt w0 w' b tb sb d1 ∧ Only [b, sb] w w' := by
  have H := Lib.hid h
  have Hd := Lib.hid hd
  clear h hd
  go_enter Tryz.func91, Tryz.ntmps91
  go_wp2_with fail
  refine (H.out.bypass hs).mono ?_
  rintro r w1 ⟨rfl, g1, g2⟩
  rw [Hd.out] at g1 ⊢
  have G := Lib.hid g1
  have G2 := Lib.hid g2
  clear g1 g2
  go_wp2
  go_ret
  exact ⟨rfl, G.out, G2.out⟩
theorem take_by {w0 wM w : World} {b tb sb tk : Nat} {sv : Value} {n : Nat} {el inc : Int} {k0 k1 k2 k3 : Value} {d d1 : Dec} {x : Int} (h : TakeAt w0 wM w b tb sb tk sv n el inc k0 k1 k2 k3 d) (hd : d.bypass = (x, 0, d1)) (hs : d.s.size ≤ 140737488355328) :
    Calls Tryz.prog 91 #[.pointer (some ⟨tk, 0, none⟩)] w fun r w' => r = .returned (.int .i64 x) ∧ TakeAt w0 wM w' b tb sb tk sv n el inc k0 k1 k2 k3 d1 := by
  refine (take_by0 h.dec (by rw [cells_of h.cells]; rfl) hd hs).mono ?_
  rintro r w1 ⟨rfl, g1, g2⟩
  exact ⟨rfl, h.go g1 g2⟩

set_option maxRecDepth 100000 in
set_option maxHeartbeats 1600000 in
theorem take_bin {w0 wM w : World} {b tb sb tk : Nat} {sv : Value} {n : Nat} {el inc : Int} {k0 k1 k2 k3 : Value} {d d1 : Dec} {x : Int} (h : TakeAt w0 wM w b tb sb tk sv n el inc k0 k1 k2 k3 d) (hd : d.bin (ctxAt el inc n) = (x, 0, d1)) (hs : d.s.size ≤ 140737488355328)
    (e0 : 0 ≤ el) (e1 : el ≤ 19) (i0 : 0 ≤ inc) (i1 : inc ≤ 7) (hn : n ≤ 1000) :
    Calls Tryz.prog 88 #[.pointer (some ⟨tk, 0, none⟩)] w fun r w' => r = .returned (.int .i64 x) ∧ ∃ sv', TakeAt w0 wM w' b tb sb tk sv' (n + 1) el inc k0 k1 k2 k3 d1 := by
  obtain ⟨hc0, hc1⟩ := Dec.can_of_bin hd
  obtain ⟨xs, hx⟩ := h.rows
  obtain ⟨ao, cp, rfl⟩ : ∃ ao cp, sv = .slice ao n cp := by
    rcases hx.2 with ⟨rfl, h0⟩ | ⟨g, cap, cur, rfl, _⟩
    · subst h0; exact ⟨_, _, rfl⟩
    · exact ⟨_, _, rfl⟩
  have c0 : w.cell? ⟨tk, 0, none⟩ = some (.pointer (some ⟨b, 0, none⟩)) := by rw [cells_of h.cells]; rfl
  have c5 : w.cell? ⟨tk, 5, none⟩ = some (.slice ao n cp) := by rw [cells_of h.cells]; rfl
  have c6 : w.cell? ⟨tk, 6, none⟩ = some (.int .i64 el) := by rw [cells_of h.cells]; rfl
  have c7 : w.cell? ⟨tk, 7, none⟩ = some (.int .i64 inc) := by rw [cells_of h.cells]; rfl
  have z5 := free_of h.cells 5
  have H := Lib.hid h
  have Hd := Lib.hid hd
  have Hx := Lib.hid hx
  clear h hd hx
  go_enter Tryz.func88, Tryz.ntmps88
  go_wp2
  go_quiet ((go_at_call 84; exact Calls.quiet_of_same ((bins_context el inc n _ e0 e1 i0 i1 (by omega)).mono fun _ _ ⟨h1, h2⟩ => ⟨h1, h2.symm⟩)))
  go_wp2
  have H1 := Lib.hid (H.out.drewN nq)
  have h1x := ownsRow_of_block (w' := w.drewN nq) Hx.out (fun _ _ => rfl)
  generalize w.drewN nq = w1 at *
  clear c0 c5 c6 c7 z5 H Hx
  have c0 : w1.cell? ⟨tk, 0, none⟩ = some (.pointer (some ⟨b, 0, none⟩)) := by rw [cells_of H1.out.cells]; rfl
  have c5 : w1.cell? ⟨tk, 5, none⟩ = some (.slice ao n cp) := by rw [cells_of H1.out.cells]; rfl
  have Hx := Lib.hid h1x
  clear h1x
  have H1d := Lib.hid H1.out.drew
  have z5 := free_of H1.out.cells 5
  have hlt := lt_of_block H1.out.cells
  have hne : (Value.slice ao n cp).ownBlock ≠ some tk := fun hi => by
    obtain ⟨c, hc⟩ := ownsRow_block Hx.out hi
    exact block_type hc H1.out.cells (by decide) rfl
  have Hne := Lib.hid hne
  have hbase := H1.out.on.size
  obtain ⟨i2, hi2, hz2, hs2, hb2⟩ := info_parts elt2.hi
  obtain ⟨st, hst⟩ : ∃ st, st = d.st.getD (ctxAt el inc n).toNat 0 := ⟨_, rfl⟩
  have Hst := Lib.hid hst
  have Hc0 := Lib.hid hc0
  have Hc1 := Lib.hid hc1
  have Hi2 := Lib.hid hi2
  have Hz2 := Lib.hid hz2
  have Hs2 := Lib.hid hs2
  have Hb2 := Lib.hid hb2
  clear hst hne hi2 hz2 hs2 hb2
  go_region_law (first
    | (refine step_append_lies _ (by rfl) _ _ _ (by rfl) wM.heap.size 164 i2 _ 2 16 Tryz.underlying134 Hi2.out Hz2.out Hs2.out Hb2.out rfl (by omega) (.slice ao n cp) n xs (by rfl) ((Hx.out.alloc _).drew)
        ⟨w1.heap.size, 0, none⟩ 1 1 [.int .i64 (ctxAt el inc n), .int .i64 st] (by rfl) (by rfl) (World.news_of_block (cs := #[.int .i64 (ctxAt el inc n), .int .i64 st]) (t := 164) (fr := (0, 0)) (heap_alloc_new w1 _)) (by simp [Value.oneCell'])
        (by omega) (by unfold maxLen; omega) (by omega) (by simp; omega) (w1.heap.size + 1) (by simp) ?_
       intro gg cap w2 hown2 hgrow hat hlt2
       have Hown2 := Lib.hid hown2
       have Hgrow := Lib.hid hgrow
       have c5n : w2.cell? ⟨tk, 5, none⟩ = some (.slice ao n cp) := (hgrow.cell_far ⟨tk, 5, none⟩ (by simp; omega) (Ne.symm Hne.out)).trans (by go_simp)
       have z5n : w2.frozen? ⟨tk, 5, none⟩ = false := (hgrow.frozen_far ⟨tk, 5, none⟩ (by simp; omega) (Ne.symm Hne.out)).trans (by go_simp)
       clear hown2 hgrow hat)
    | (go_simp; go_at_call 110; refine (dec_state b tb sb d _ _ H1d.out.dec.is Hc0.out Hc1.out).mono ?_; rintro r w' ⟨rfl, rfl⟩; rw [← Hst.out]))
  all_goals
    have g5 := H1.out.pushed Hown2.out Hgrow.out
    have G5 := Lib.hid g5
    generalize w2.setCell ⟨tk, 5, none⟩ (.slice (some ⟨gg, 0, none⟩) (n + 1) cap) = w3 at *
    have c00 : w3.cell? ⟨tk, 0, none⟩ = some (.pointer (some ⟨b, 0, none⟩)) := by rw [cells_of g5.cells]; rfl
    clear g5 c5n z5n c0 c5 z5 Hown2 Hgrow
    go_wp2_with fail
    refine (G5.out.dec.bin (ctxAt el inc n) hs).mono ?_
    rintro r w4 ⟨rfl, g1, g2⟩
    rw [Hd.out] at g1 ⊢
    have G6 := Lib.hid (G5.out.go g1 g2)
    clear g1 g2
    go_wp2
    go_ret
    exact ⟨rfl, _, G6.out⟩
end Go.Proofs.YtgmnkihldlajcaaGreatDoor
