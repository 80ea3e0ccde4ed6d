/-
  The walk over package intra's mean of two edges. The walks over package intra's part of an edge. The walk over package intra's edges.
-/
import Derived.Test.YtcmehedjdfopdaaGreatJ09
import Derived.Deep.RegionLaw
import Derived.Deep.AppendLies
import Derived.Deep.DeepCutAuto
namespace Go.Proofs.YtcmehedjdfopdaaGreat
open Go.RowKit

/-- The mean of two edges. -/
def meanOf (xs ys : List Int) : Int :=
  if xs.length + ys.length = 0 then 128 else (sumTo xs xs.length + sumTo ys ys.length + ((xs.length + ys.length : Nat) : Int) / 2) / ((xs.length + ys.length : Nat) : Int)

set_option maxHeartbeats 800000 in
theorem intra_mean (g : Nat) (v1 v2 : Value) (xs ys : List Int) (w : World) (c0 : w.cell? ⟨g, 0, none⟩ = some v1) (c1 : w.cell? ⟨g, 1, none⟩ = some v2) (h1 : IntSlice w v1 xs) (h2 : IntSlice w v2 ys) (l1 : xs.length ≤ 100) (l2 : ys.length ≤ 100) (x1 : ∀ i, i < xs.length → 0 ≤ xs.getD i 0 ∧ xs.getD i 0 ≤ 255) (x2 : ∀ i, i < ys.length → 0 ≤ ys.getD i 0 ∧ ys.getD i 0 ≤ 255) :
    Calls Tryz.prog 119 #[.slice (some ⟨g, 0, none⟩) 2 2] w fun e w' => e = .returned (.int .i64 (meanOf xs ys)) ∧ w = w' := by
  have s1 := intra_sum v1 xs w h1 (by omega) x1
  have s2 := intra_sum v2 ys w h2 (by omega) x2
  have r1 := sumTo_range xs xs.length x1 _ (Nat.le_refl _)
  have r2 := sumTo_range ys ys.length x2 _ (Nat.le_refl _)
  obtain ⟨a1, p1, rfl, -⟩ := h1
  obtain ⟨a2, p2, rfl, -⟩ := h2
  clear x1 x2
  obtain ⟨m, hm⟩ : ∃ m, m = meanOf xs ys := ⟨_, rfl⟩
  unfold meanOf at hm
  rw [show meanOf xs ys = m by rw [hm]; rfl]
  generalize sumTo xs xs.length = t1 at *
  generalize sumTo ys ys.length = t2 at *
  generalize xs.length = n1 at *
  generalize ys.length = n2 at *
  have S1 := Lib.hid s1
  have S2 := Lib.hid s2
  have Hm := Lib.hid hm
  clear s1 s2 hm
  go_enter Tryz.func119, Tryz.ntmps119
  go_wp2
  go_loop [3, 4, 9] (fun n s q => (q = .int .i64 0 ∧ n = .int .i64 0 ∧ s = .int .i64 0) ∨ (q = .int .i64 1 ∧ n = .int .i64 n1 ∧ s = .int .i64 t1) ∨ (q = .int .i64 2 ∧ n = .int .i64 ((n1 : Int) + n2) ∧ s = .int .i64 (t1 + t2))) (fun _ _ q => 2 - (intOf q).toNat)
  case atStart => exact .inl ⟨rfl, rfl, rfl⟩
  case round =>
    rcases hrel with ⟨rfl, rfl, rfl⟩ | ⟨rfl, rfl, rfl⟩ | ⟨rfl, rfl, rfl⟩
    · go_wp2_with fail
      refine S1.out.mono ?_
      rintro r w' ⟨rfl, rfl⟩
      go_wp2
      go_round
      case rel => exact .inr (.inl ⟨by go_num, by go_num, by go_num⟩)
      case measure => simp [intOf] <;> omega
    · go_wp2_with fail
      refine S2.out.mono ?_
      rintro r w' ⟨rfl, rfl⟩
      go_wp2
      go_round
      case rel => exact .inr (.inr ⟨by go_num, by go_num, by go_num⟩)
      case measure => simp [intOf] <;> omega
    · by_cases hz : n1 + n2 = 0
      · have hm : m = 128 := by rw [Hm.out, if_pos hz]
        have hz' : (n1 : Int) + n2 = 0 := by omega
        clear Hm
        subst hm
        go_wp2
        go_ret
        exact ⟨rfl, rfl⟩
      · have hm : m = (t1 + t2 + ((n1 : Int) + n2) / 2) / ((n1 : Int) + n2) := by rw [Hm.out, if_neg hz, Int.natCast_add]
        obtain ⟨N, hN⟩ : ∃ N : Int, N = (n1 : Int) + n2 := ⟨_, rfl⟩
        rw [← hN] at hm ⊢
        have hN0 : 0 < N := by omega
        have hN1 : N ≤ 200 := by omega
        have hT : 0 ≤ t1 + t2 ∧ t1 + t2 ≤ 51000 := by omega
        obtain ⟨T, hTT⟩ : ∃ T : Int, T = t1 + t2 := ⟨_, rfl⟩
        rw [← hTT] at hm hT ⊢
        have hq : 0 ≤ T + N / 2 ∧ T + N / 2 ≤ 51100 := by omega
        have hd : 0 ≤ (T + N / 2) / N := Int.ediv_nonneg hq.1 (by omega)
        have hd1 : (T + N / 2) / N ≤ 51100 := Int.le_trans (Int.ediv_le_self _ hq.1) hq.2
        clear Hm
        go_wp2
        go_ret
        exact ⟨rfl, rfl⟩
end Go.Proofs.YtcmehedjdfopdaaGreat

namespace Go.Proofs.YtcmehedjdfopdaaGreat
open Go.RowKit

theorem part_none (ao : Option Addr) (cap : Nat) (k : Int) (w : World) :
    Calls Tryz.prog 153 #[.slice ao 0 cap, .int .i64 k] w fun e w' => e = .returned (.slice none 0 0) ∧ w = w' := by
  go_enter Tryz.func153, Tryz.ntmps153
  go_wp2
  go_ret
  exact ⟨rfl, rfl⟩

theorem part_some (g o n cap k : Nat) (w : World) (hn : 0 < n) (hn1 : n ≤ 100) (hk : k < 4) (hc : 4 * k + 4 ≤ cap) (hc1 : cap ≤ 1000) :
    Calls Tryz.prog 153 #[.slice (some ⟨g, o, none⟩) n cap, .int .i64 (k : Int)] w fun e w' => e = .returned (.slice (some ⟨g, o + 4 * k, none⟩) 4 (cap - 4 * k)) ∧ w = w' := by
  have h0 : ((n : Int) == 0) = false := by simp; omega
  rcases (show k = 0 ∨ k = 1 ∨ k = 2 ∨ k = 3 by omega) with rfl | rfl | rfl | rfl
  all_goals
    go_enter Tryz.func153, Tryz.ntmps153
    go_wp2
    go_ret
    exact ⟨rfl, rfl⟩
end Go.Proofs.YtcmehedjdfopdaaGreat

namespace Go.Proofs.YtcmehedjdfopdaaGreat
open Go.RowKit

theorem own_ge {w : World} {B k : Nat} {e : TypeId} {xs : List Value} {v : Value} (h : w.ownsRow B e 1 v k xs) : ∀ g, v.ownBlock = some g → B ≤ g := fun g hg => by
  rcases h.2 with ⟨rfl, _⟩ | ⟨g', cap, cur, rfl, hb, _⟩
  · simp [Value.ownBlock] at hg
  · simp [Value.ownBlock] at hg; subst hg; exact hb
/-- A list in a field has one more. -/
theorem push_field {w wr w2 : World} {S : List Nat} {b i B k : Nat} {e T : TypeId} {xs ys : List Value} {sv sv' : Value} {cs : Array Value} {x : Obj} (hw : b ∈ S ∨ w.heap.size ≤ b) (hB : b < B) (hBw : w.heap.size ≤ B) (hcell : wr.heap[b]? = some (.cells cs T (0, 0)))
    (hown : wr.ownsRow B e 1 sv k xs) (ho : Only S w wr) (hown2 : w2.ownsRow B e 1 sv' (k + 1) ys) (hg : (wr.alloc x).drew.grownBy w2 sv.ownBlock) :
    (w2.setCell ⟨b, i, none⟩ sv').heap[b]? = some (.cells (cs.setIfInBounds i sv') T (0, 0)) ∧ (w2.setCell ⟨b, i, none⟩ sv').ownsRow B e 1 sv' (k + 1) ys ∧ Only S w (w2.setCell ⟨b, i, none⟩ sv') := by
  have hO := own_ge hown
  have o1 : Only sv.ownBlock.toList wr w2 := (((Only.refl _ wr).alloc x).drew).grown hg (fun k hk => .inl (by simp [hk]))
  have hk : b ∉ sv.ownBlock.toList := fun hi => by have := hO b (by simpa using hi); omega
  have hcells := o1.heap hcell hk
  have o2 : Only S w w2 := ho.trans' o1 (fun i hi => .inr (by have := hO i (by simpa using hi); omega))
  refine ⟨heap_set_same _ hcells, ownsRow_of_block hown2 fun g hgo => ?_, o2.setCell hw _⟩
  obtain ⟨c, hc⟩ := ownsRow_block hown2 hgo
  have hBg : B ≤ g := own_ge hown2 g hgo
  exact (heap_set_other _ hc (by omega)).trans hc.symm
theorem take_push (xs : List Int) (k : Nat) (h : k < xs.length) : (xs.take k).map (Value.int .i64) ++ [.int .i64 (xs.getD k 0)] = (xs.take (k + 1)).map (Value.int .i64) := by
  rw [List.take_add_one, List.map_append]
  simp [List.getD, h]
theorem IntSlice.of_rows {w : World} {B k : Nat} {e : TypeId} {v : Value} {xs : List Int} (h : w.ownsRow B e 1 v k (xs.map (Value.int .i64))) (hk : k = xs.length) : IntSlice w v xs := by
  subst hk
  rcases h.2 with ⟨rfl, h0⟩ | ⟨g, cap, cur, rfl, _⟩
  · exact ⟨none, 0, by rw [h0], .inl (List.eq_nil_of_length_eq_zero h0)⟩
  · refine ⟨some ⟨g, 0, none⟩, cap, rfl, .inr ⟨g, 0, rfl, fun i hi => ?_⟩⟩
    rw [Nat.zero_add, h.cellAt i (by omega)]
    simp [List.getElem?_eq_getElem hi, List.getD]

/-- A slice whose capacity is no less than its length. -/
def CapOk (v : Value) : Prop := ∀ a n c, v = .slice a n c → n ≤ c
theorem CapOk.own {w : World} {B k : Nat} {e : TypeId} {xs : List Value} {v : Value} (h : w.ownsRow B e 1 v k xs) : CapOk v := by
  rintro a n c rfl
  rcases h.2 with ⟨h1, _⟩ | ⟨g', cap, cur, h1, _, _, hnc, _⟩
  · injection h1 with _ h2 h3
    omega
  · injection h1 with _ h2 h3
    omega

set_option maxRecDepth 100000 in
set_option maxHeartbeats 1600000 in
theorem intra_ofC (vl vt : Value) (xs ys : List Int) (corner : Int) (l t : Nat) (w : World) (hvl : IntSlice w vl xs) (hvt : IntSlice w vt ys) (hl : xs.length = 0 ∨ xs.length = l) (ht : ys.length = 0 ∨ ys.length = t) (l16 : l ≤ 16) (t16 : t ≤ 16)
    (hx : ∀ i, i < xs.length → 0 ≤ xs.getD i 0 ∧ xs.getD i 0 ≤ 255) (hy : ∀ i, i < ys.length → 0 ≤ ys.getD i 0 ∧ ys.getD i 0 ≤ 255) (c0 : -1 ≤ corner) (c1 : corner ≤ 255) :
    Calls Tryz.prog 104 #[vl, vt, .int .i64 corner, .int .i64 l, .int .i64 t] w fun e w' => ∃ g s1 s2, e = .returned (.tuple #[.pointer (some ⟨g, 0, none⟩), .int .i64 0]) ∧ w'.heap[g]? = some (.cells #[s1, s2, .int .i64 corner] 216 (0, 0)) ∧ IntSlice w' s1 xs ∧ IntSlice w' s2 ys ∧ w.heap.size ≤ g ∧ Only [] w w' ∧ CapOk s2 := by
  obtain ⟨ao, cap, rfl, ha⟩ := hvl
  obtain ⟨ap, cup, rfl, hb⟩ := hvt
  obtain ⟨n, hn⟩ : ∃ n, n = xs.length := ⟨_, rfl⟩
  obtain ⟨m, hm⟩ : ∃ m, m = ys.length := ⟨_, rfl⟩
  rw [← hn] at hl hx
  rw [← hm] at ht hy
  rw [← hn, ← hm]
  have Ha := Lib.hid ha
  have Hb := Lib.hid hb
  have Hx := Lib.hid hx
  have Hy := Lib.hid hy
  have Hn := Lib.hid hn
  have Hm := Lib.hid hm
  clear ha hb hx hy hn hm
  go_enter Tryz.func104, Tryz.ntmps104
  go_upto_region 1 with fail
  go_cut [36] (fun c wx => c = .bool false ∧ w = wx)
  case first =>
    by_cases a0 : n = 0 <;> by_cases b0 : m = 0
    all_goals
      have a1 : ((n : Int) != 0) = !decide (n = 0) := by by_cases h : n = 0 <;> simp [h]
      have b1 : ((m : Int) != 0) = !decide (m = 0) := by by_cases h : m = 0 <;> simp [h]
      have a2 : n ≠ 0 → ((n : Int) != (l : Int)) = false := by intro h; simp; omega
      have b2 : m ≠ 0 → ((m : Int) != (t : Int)) = false := by intro h; simp; omega
      simp only [a0, b0, ne_eq, not_true_eq_false, not_false_eq_true, decide_true, decide_false, Bool.not_true, Bool.not_false, forall_const, false_implies] at a1 b1 a2 b2
      have A0 := Lib.hid a0
      have B0 := Lib.hid b0
      clear hl ht a0 b0
      go_wp2
      try (obtain rfl : n = 0 := A0.out)
      try (obtain rfl : m = 0 := B0.out)
      go_meet
      exact ⟨rfl, rfl⟩
  case rest =>
    obtain ⟨rfl, rfl⟩ := hcut
    have hmx : max corner (-1) = corner := by omega
    go_wp2
    go_loopw [48] (fun q wr => ∃ k : Nat, k ≤ n ∧ q = .int .i64 k ∧ ∃ v, wr.heap[w.heap.size]? = some (.cells #[v, .slice none 0 0, .int .i64 corner] 216 (0, 0)) ∧ wr.ownsRow (w.heap.size + 1) 3 1 v k ((xs.take k).map (Value.int .i64)) ∧ Only [] w wr) (fun q _ => n - (intOf q).toNat)
    case atStart => exact ⟨0, Nat.zero_le _, rfl, _, heap_alloc_at w _, ⟨rfl, .inl ⟨rfl, rfl⟩⟩, (Only.refl [] w).alloc _⟩
    case round =>
      obtain ⟨k, hk, rfl, v, hcell, hown, ho⟩ := hrel
      by_cases hlt : k < n
      · rcases Ha.out with h | ⟨g, off, rfl, hc⟩
        · have := Hn.out; rw [h] at this; simp at this; omega
        have d1 := ho.cell (hc k (by rw [← Hn.out]; exact hlt)) (by simp)
        obtain ⟨r0, r1⟩ := Hx.out k hlt
        obtain ⟨x, hxk⟩ : ∃ x, x = xs.getD k 0 := ⟨_, rfl⟩
        rw [← hxk] at d1 r0 r1
        have Hxk := Lib.hid hxk
        obtain ⟨av, cv, rfl⟩ : ∃ av cv, v = .slice av k cv := by
          rcases hown.2 with ⟨rfl, h0⟩ | ⟨g', cap', cur, rfl, _⟩
          · subst h0; exact ⟨_, _, rfl⟩
          · exact ⟨_, _, rfl⟩
        have c5 : wr.cell? ⟨w.heap.size, 0, none⟩ = some (.slice av k cv) := by rw [cells_of hcell]; rfl
        have z5 := free_of hcell 0
        have hlt0 := lt_of_block hcell
        have hne : (Value.slice av k cv).ownBlock ≠ some w.heap.size := fun hi => by
          rcases hown.2 with ⟨h1, _⟩ | ⟨g', cap', cur, h1, hb1, _⟩
          · rw [h1] at hi; simp [Value.ownBlock] at hi
          · rw [h1] at hi; simp [Value.ownBlock] at hi; omega
        have Hown := Lib.hid hown
        have Hcell := Lib.hid hcell
        have Ho := Lib.hid ho
        have Hne := Lib.hid hne
        have hcl := fun w => intra_clip x w (by omega) (by omega)
        rw [clip8_id r0 r1] at hcl
        have Hcl := Lib.hid hcl
        obtain ⟨i2, hi2, hz2, hs2, hb2⟩ := info_parts elt64.hi
        have Hi2 := Lib.hid hi2
        have Hz2 := Lib.hid hz2
        have Hs2 := Lib.hid hs2
        have Hb2 := Lib.hid hb2
        have hsz := ho.size
        clear hc hxk hown hcell ho hne hcl hi2 hz2 hs2 hb2
        go_wp2
        go_region_law (first
          | (refine step_append_lies _ (by rfl) _ _ _ (by rfl) (w.heap.size + 1) 3 i2 _ 1 8 Tryz.underlying58 Hi2.out Hz2.out Hs2.out Hb2.out rfl (by omega) (.slice av k cv) k _ (by rfl) ((Hown.out.alloc _).drew)
              ⟨wr.heap.size, 0, none⟩ 1 1 [.int .i64 x] (by rfl) (by rfl) (World.news_of_block (cs := #[.int .i64 x]) (t := 3) (fr := (0, 0)) (heap_alloc_new wr _)) (by simp [Value.oneCell'])
              (by omega) (by unfold maxLen; omega) (by omega) (by simp; omega) (wr.heap.size + 1) (by simp) ?_
             intro gg cap2 w2 hown2 hgrow hat hlt2
             have Hown2 := Lib.hid hown2
             have Hgrow := Lib.hid hgrow
             have z5n : w2.frozen? ⟨w.heap.size, 0, none⟩ = false := (hgrow.frozen_far ⟨w.heap.size, 0, none⟩ (by simp; omega) (Ne.symm Hne.out)).trans (by go_simp)
             have c5n : w2.cell? ⟨w.heap.size, 0, none⟩ = some (.slice av k cv) := (hgrow.cell_far ⟨w.heap.size, 0, none⟩ (by simp; omega) (Ne.symm Hne.out)).trans (by go_simp)
             clear hown2 hgrow hat)
          | (go_simp; go_at_call 135; refine (Hcl.out _).mono ?_; rintro r w' ⟨rfl, rfl⟩))
        all_goals
          have hp := push_field (i := 0) (.inr (Nat.le_refl w.heap.size)) (Nat.lt_succ_self _) (Nat.le_succ _) Hcell.out Hown.out Ho.out Hown2.out Hgrow.out
          rw [Hxk.out, take_push xs k (by rw [← Hn.out]; exact hlt)] at hp
          have P := Lib.hid hp
          clear hp
          go_wp2
          go_roundw
          case rel => exact ⟨k + 1, by omega, by go_num, _, P.out.1, P.out.2.1, P.out.2.2⟩
          case measure => simp [intOf] <;> omega
      · obtain rfl : k = n := by omega
        rw [List.take_of_length_le (by rw [← Hn.out]; omega)] at hown
        have Hs1 := Lib.hid (IntSlice.of_rows hown Hn.out)
        have Hown1 := Lib.hid hown
        have Hcell1 := Lib.hid hcell
        have Ho1 := Lib.hid ho
        clear hown hcell ho
        generalize wr = wq at *
        have Hq := Lib.hid (lt_of_block Hcell1.out)
        have HO1 := Ho1
        go_wp2
        go_loopw [66] (fun q wr => ∃ k : Nat, k ≤ m ∧ q = .int .i64 k ∧ ∃ v2, wr.heap[w.heap.size]? = some (.cells #[v, v2, .int .i64 corner] 216 (0, 0)) ∧ wr.ownsRow wq.heap.size 3 1 v2 k ((ys.take k).map (Value.int .i64)) ∧ Only [w.heap.size] wq wr) (fun q _ => m - (intOf q).toNat)
        case atStart => exact ⟨0, Nat.zero_le _, rfl, _, Hcell1.out, ⟨rfl, .inl ⟨rfl, rfl⟩⟩, Only.refl _ wq⟩
        case round =>
          obtain ⟨k, hk, rfl, v2, hcell, hown, ho⟩ := hrel
          by_cases hlt : k < m
          · rcases Hb.out with h | ⟨g, off, rfl, hc⟩
            · have := Hm.out; rw [h] at this; simp at this; omega
            have d0 := HO1.out.cell (hc k (by rw [← Hm.out]; exact hlt)) (by simp)
            have d1 := ho.cell d0 (by have := World.block_lt_of_cell? w _ (hc k (by rw [← Hm.out]; exact hlt)); simp at this ⊢; omega)
            clear d0
            obtain ⟨r0, r1⟩ := Hy.out k hlt
            obtain ⟨x, hxk⟩ : ∃ x, x = ys.getD k 0 := ⟨_, rfl⟩
            rw [← hxk] at d1 r0 r1
            have Hxk := Lib.hid hxk
            obtain ⟨av, cv, rfl⟩ : ∃ av cv, v2 = .slice av k cv := by
              rcases hown.2 with ⟨rfl, h0⟩ | ⟨g', cap', cur, rfl, _⟩
              · subst h0; exact ⟨_, _, rfl⟩
              · exact ⟨_, _, rfl⟩
            have c5 : wr.cell? ⟨w.heap.size, 1, none⟩ = some (.slice av k cv) := by rw [cells_of hcell]; rfl
            have z5 := free_of hcell 1
            have hlt0 := lt_of_block hcell
            have hq0 := Hq.out
            have hne : (Value.slice av k cv).ownBlock ≠ some w.heap.size := fun hi => by
              rcases hown.2 with ⟨h1, _⟩ | ⟨g', cap', cur, h1, hb1, _⟩
              · rw [h1] at hi; simp [Value.ownBlock] at hi
              · rw [h1] at hi; simp [Value.ownBlock] at hi; have := Hq.out; omega
            have Hown := Lib.hid hown
            have Hcell := Lib.hid hcell
            have Ho := Lib.hid ho
            have Hne := Lib.hid hne
            have hcl := fun w => intra_clip x w (by omega) (by omega)
            rw [clip8_id r0 r1] at hcl
            have Hcl := Lib.hid hcl
            obtain ⟨i2, hi2, hz2, hs2, hb2⟩ := info_parts elt64.hi
            have Hi2 := Lib.hid hi2
            have Hz2 := Lib.hid hz2
            have Hs2 := Lib.hid hs2
            have Hb2 := Lib.hid hb2
            have hsz := ho.size
            clear hc hxk hown hcell ho hne hcl hi2 hz2 hs2 hb2
            go_wp2
            go_region_law (first
              | (refine step_append_lies _ (by rfl) _ _ _ (by rfl) wq.heap.size 3 i2 _ 1 8 Tryz.underlying58 Hi2.out Hz2.out Hs2.out Hb2.out rfl (by omega) (.slice av k cv) k _ (by rfl) ((Hown.out.alloc _).drew)
                  ⟨wr.heap.size, 0, none⟩ 1 1 [.int .i64 x] (by rfl) (by rfl) (World.news_of_block (cs := #[.int .i64 x]) (t := 3) (fr := (0, 0)) (heap_alloc_new wr _)) (by simp [Value.oneCell'])
                  (by omega) (by unfold maxLen; omega) (by omega) (by simp; omega) (wr.heap.size + 1) (by simp) ?_
                 intro gg cap2 w2 hown2 hgrow hat hlt2
                 have Hown2 := Lib.hid hown2
                 have Hgrow := Lib.hid hgrow
                 have z5n : w2.frozen? ⟨w.heap.size, 1, none⟩ = false := (hgrow.frozen_far ⟨w.heap.size, 1, none⟩ (by simp; omega) (Ne.symm Hne.out)).trans (by go_simp)
                 have c5n : w2.cell? ⟨w.heap.size, 1, none⟩ = some (.slice av k cv) := (hgrow.cell_far ⟨w.heap.size, 1, none⟩ (by simp; omega) (Ne.symm Hne.out)).trans (by go_simp)
                 clear hown2 hgrow hat)
              | (go_simp; go_at_call 135; refine (Hcl.out _).mono ?_; rintro r w' ⟨rfl, rfl⟩))
            all_goals
              have hp := push_field (i := 1) (.inl (List.mem_singleton.2 rfl)) Hq.out (Nat.le_refl _) Hcell.out Hown.out Ho.out Hown2.out Hgrow.out
              rw [Hxk.out, take_push ys k (by rw [← Hm.out]; exact hlt)] at hp
              have P := Lib.hid hp
              clear hp
              go_wp2
              go_roundw
              case rel => exact ⟨k + 1, by omega, by go_num, _, P.out.1, P.out.2.1, P.out.2.2⟩
              case measure => simp [intOf] <;> omega
          · obtain rfl : k = m := by omega
            rw [List.take_of_length_le (by rw [← Hm.out]; omega)] at hown
            have Hs2 := Lib.hid (IntSlice.of_rows hown Hm.out)
            have hs1 : IntSlice wr v xs := IntSlice.of_rows (ownsRow_of_block Hown1.out fun g hg => by
              have h1 := own_ge Hown1.out g hg
              obtain ⟨c, hc⟩ := ownsRow_block Hown1.out hg
              exact ho.block g (lt_of_block hc) (by simp; omega)) Hn.out
            have Hs1 := Lib.hid hs1
            have HO2 : Hid (Only [] w wr) := Lib.hid (Ho1.out.trans' ho (fun i hi => .inr (by simp at hi; omega)))
            have HC2 := Lib.hid hcell
            have Hcp := Lib.hid (CapOk.own hown)
            clear hown ho hs1 hcell
            go_wp2
            go_ret2
            exact ⟨_, _, _, rfl, HC2.out, Hs1.out, Hs2.out, Nat.le_refl _, HO2.out, Hcp.out⟩

theorem intra_of (vl vt : Value) (xs ys : List Int) (corner : Int) (l t : Nat) (w : World) (hvl : IntSlice w vl xs) (hvt : IntSlice w vt ys) (hl : xs.length = 0 ∨ xs.length = l) (ht : ys.length = 0 ∨ ys.length = t) (l16 : l ≤ 16) (t16 : t ≤ 16)
    (hx : ∀ i, i < xs.length → 0 ≤ xs.getD i 0 ∧ xs.getD i 0 ≤ 255) (hy : ∀ i, i < ys.length → 0 ≤ ys.getD i 0 ∧ ys.getD i 0 ≤ 255) (c0 : -1 ≤ corner) (c1 : corner ≤ 255) :
    Calls Tryz.prog 104 #[vl, vt, .int .i64 corner, .int .i64 l, .int .i64 t] w fun e w' => ∃ g s1 s2, e = .returned (.tuple #[.pointer (some ⟨g, 0, none⟩), .int .i64 0]) ∧ w'.heap[g]? = some (.cells #[s1, s2, .int .i64 corner] 216 (0, 0)) ∧ IntSlice w' s1 xs ∧ IntSlice w' s2 ys ∧ w.heap.size ≤ g ∧ Only [] w w' := by
  refine (intra_ofC vl vt xs ys corner l t w hvl hvt hl ht l16 t16 hx hy c0 c1).mono ?_
  rintro e w' ⟨g, s1, s2, h1, h2, h3, h4, h5, h6, -⟩
  exact ⟨g, s1, s2, h1, h2, h3, h4, h5, h6⟩
end Go.Proofs.YtcmehedjdfopdaaGreat
