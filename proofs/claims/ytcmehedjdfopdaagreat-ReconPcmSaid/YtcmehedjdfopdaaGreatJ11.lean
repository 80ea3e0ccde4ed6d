/-
  The walks over package intra's flat and the functions that it is handed. The walk over package intra's Whole. The walk over package intra's Whole: the mean, and what is refused.
-/
import Derived.Test.YtcmehedjdfopdaaGreatJ10
import Derived.Test.YtcmehedjdfopdaaGreatJ04
namespace Go.Proofs.YtcmehedjdfopdaaGreat
open Go.RowKit

/-- A block's samples by place. -/
def flatL (n : Nat) (f : Nat → Nat → Int) : List Int := (List.range (n * n)).map fun i => f (i % n) (i / n)
theorem flatL_length (n : Nat) (f : Nat → Nat → Int) : (flatL n f).length = n * n := by simp [flatL]
theorem flatL_at (n : Nat) (f : Nat → Nat → Int) (k : Nat) (h : k < n * n) : (flatL n f).getD k 0 = f (k % n) (k / n) := by simp [flatL, List.getD, h]
theorem flatL_const (n : Nat) (c : Int) : flatL n (fun _ _ => c) = List.replicate (n * n) c := by simp [flatL, List.map_const']

set_option maxRecDepth 100000 in
set_option maxHeartbeats 1600000 in
theorem intra_flat16 (F : Nat) (cp : Value) (f : Nat → Nat → Int) (w : World) (hent : ∀ (c : Array Value) (w : World), (callFunc F c).run Tryz.prog w = .ok (.enter F c) w)
    (hF : ∀ (wr : World) (x y : Nat), Only [] w wr → x < 16 → y < 16 → Calls Tryz.prog F #[.int .i64 (x : Int), .int .i64 (y : Int), cp] wr fun e w' => e = .returned (.int .i64 (f x y)) ∧ wr = w') :
    Calls Tryz.prog 109 #[.int .i64 16, .func (.func F) #[] #[cp]] w fun e w' => ∃ v, e = .returned v ∧ w'.ownsRow w.heap.size 3 1 v 256 ((flatL 16 f).map (Value.int .i64)) ∧ Only [] w w' := by
  obtain ⟨L, hL⟩ : ∃ L, L = flatL 16 f := ⟨_, rfl⟩
  have hlen : L.length = 256 := by rw [hL, flatL_length]
  have hat : ∀ k, k < 256 → L.getD k 0 = f (k % 16) (k / 16) := fun k hk => by rw [hL, flatL_at 16 f k (by omega)]
  rw [← hL]
  have HF := Lib.hid hF
  have HL := Lib.hid hlen
  have HA := Lib.hid hat
  clear hF hlen hat hL
  go_enter Tryz.func109, Tryz.ntmps109
  go_wp2
  go_loopw [5, 10] (fun v q wr => ∃ k : Nat, k ≤ 256 ∧ q = .int .i64 k ∧ ∃ av cv, v = .slice av k cv ∧ wr.ownsRow w.heap.size 3 1 (.slice av k cv) k ((L.take k).map (Value.int .i64)) ∧ Only [] w wr) (fun _ q _ => 256 - (intOf q).toNat)
  case atStart => exact ⟨0, Nat.zero_le _, rfl, _, _, rfl, ⟨rfl, .inl ⟨rfl, rfl⟩⟩, Only.refl [] w⟩
  case round =>
    obtain ⟨k, hk, rfl, av, cv, rfl, hown, ho⟩ := hrel
    by_cases hlt : k < 256
    · obtain ⟨x, hx⟩ : ∃ x : Nat, x = k % 16 := ⟨_, rfl⟩
      obtain ⟨y, hy⟩ : ∃ y : Nat, y = k / 16 := ⟨_, rfl⟩
      have hx1 : x < 16 := by omega
      have hy1 : y < 16 := by omega
      have qx : (k : Int).tmod 16 = (x : Int) := by
        rw [Int.tmod_eq_emod_of_nonneg (by omega), hx]
        omega
      have qy : IntKind.i64.wrap ((k : Int) / 16) = (y : Int) := by
        rw [hy]
        exact IntWalk.i64_in _ (by omega)
      have hfk : f x y = L.getD k 0 := by rw [HA.out k hlt, hx, hy]
      have hcl := fun (wx : World) (hx : Only [] w wx) => HF.out wx x y hx hx1 hy1
      have Hcl := Lib.hid hcl
      have Hfk := Lib.hid hfk
      have Hown := Lib.hid hown
      have Ho := Lib.hid ho
      have hsz := ho.size
      obtain ⟨i2, hi2, hz2, hs2, hb2⟩ := info_parts elt64.hi
      have Hi2 := Lib.hid hi2
      have Hz2 := Lib.hid hz2
      have Hs2 := Lib.hid hs2
      have Hb2 := Lib.hid hb2
      clear hx hy hfk hcl hown ho hi2 hz2 hs2 hb2
      generalize f x y = u at *
      go_wp2
      go_region_law (first
        | (go_simp; refine (Hcl.out _ (by first | exact Ho.out | exact Ho.out.drew)).mono ?_; rintro r w' ⟨rfl, rfl⟩)
        | (refine step_append_lies _ (by rfl) _ _ _ (by rfl) w.heap.size 3 i2 _ 1 8 Tryz.underlying58 Hi2.out Hz2.out Hs2.out Hb2.out rfl (by omega) (.slice av k cv) k _ (by rfl) (by first | exact (Hown.out.alloc _).drew | exact Hown.out.drew.alloc _)
            ⟨wr.heap.size, 0, none⟩ 1 1 [.int .i64 u] (by rfl) (by rfl) (World.news_of_block (cs := #[.int .i64 u]) (t := 3) (fr := (0, 0)) (heap_alloc_new wr _)) (by simp [Value.oneCell'])
            (by omega) (by unfold maxLen; omega) (by omega) (by simp; omega) (wr.heap.size + 1) (by simp) ?_
           intro gg cap2 w2 hown2 hgrow hat hlt2
           have Hown2 := Lib.hid hown2
           have Hgrow := Lib.hid hgrow
           clear hown2 hgrow hat))
      all_goals
        have o1 := (((Only.refl [] wr).alloc (.cells #[.int .i64 u] 3)).drew)
        have p1 : Only [] w w2 := Ho.out.trans' ((o1.mono (fun i hi => by simp at hi)).grown (S := (Value.slice av k cv).ownBlock.toList) Hgrow.out (fun i hi => .inl (by simp [hi]))) (fun i hi => .inr (own_ge Hown.out i (by simpa using hi)))
        have p2 := Hown2.out
        rw [Hfk.out, take_push L k (by rw [HL.out]; exact hlt)] at p2
        have P1 := Lib.hid p1
        have P2 := Lib.hid p2
        clear o1 p1 p2
        go_wp2
        go_roundw
        case rel => exact ⟨k + 1, by omega, by go_num, _, _, rfl, P2.out, P1.out⟩
        case measure => simp [intOf] <;> omega
    · obtain rfl : k = 256 := by omega
      rw [List.take_of_length_le (by rw [HL.out]; omega)] at hown
      have H1 := Lib.hid hown
      have H2 := Lib.hid ho
      clear hown ho
      go_wp2
      go_ret
      exact ⟨_, rfl, H1.out, H2.out⟩

set_option maxRecDepth 100000 in
set_option maxHeartbeats 1600000 in
theorem intra_flat8 (F : Nat) (cp : Value) (f : Nat → Nat → Int) (w : World) (hent : ∀ (c : Array Value) (w : World), (callFunc F c).run Tryz.prog w = .ok (.enter F c) w)
    (hF : ∀ (wr : World) (x y : Nat), Only [] w wr → x < 8 → y < 8 → Calls Tryz.prog F #[.int .i64 (x : Int), .int .i64 (y : Int), cp] wr fun e w' => e = .returned (.int .i64 (f x y)) ∧ wr = w') :
    Calls Tryz.prog 109 #[.int .i64 8, .func (.func F) #[] #[cp]] w fun e w' => ∃ v, e = .returned v ∧ w'.ownsRow w.heap.size 3 1 v 64 ((flatL 8 f).map (Value.int .i64)) ∧ Only [] w w' := by
  obtain ⟨L, hL⟩ : ∃ L, L = flatL 8 f := ⟨_, rfl⟩
  have hlen : L.length = 64 := by rw [hL, flatL_length]
  have hat : ∀ k, k < 64 → L.getD k 0 = f (k % 8) (k / 8) := fun k hk => by rw [hL, flatL_at 8 f k (by omega)]
  rw [← hL]
  have HF := Lib.hid hF
  have HL := Lib.hid hlen
  have HA := Lib.hid hat
  clear hF hlen hat hL
  go_enter Tryz.func109, Tryz.ntmps109
  go_wp2
  go_loopw [5, 10] (fun v q wr => ∃ k : Nat, k ≤ 64 ∧ q = .int .i64 k ∧ ∃ av cv, v = .slice av k cv ∧ wr.ownsRow w.heap.size 3 1 (.slice av k cv) k ((L.take k).map (Value.int .i64)) ∧ Only [] w wr) (fun _ q _ => 64 - (intOf q).toNat)
  case atStart => exact ⟨0, Nat.zero_le _, rfl, _, _, rfl, ⟨rfl, .inl ⟨rfl, rfl⟩⟩, Only.refl [] w⟩
  case round =>
    obtain ⟨k, hk, rfl, av, cv, rfl, hown, ho⟩ := hrel
    by_cases hlt : k < 64
    · obtain ⟨x, hx⟩ : ∃ x : Nat, x = k % 8 := ⟨_, rfl⟩
      obtain ⟨y, hy⟩ : ∃ y : Nat, y = k / 8 := ⟨_, rfl⟩
      have hx1 : x < 8 := by omega
      have hy1 : y < 8 := by omega
      have qx : (k : Int).tmod 8 = (x : Int) := by
        rw [Int.tmod_eq_emod_of_nonneg (by omega), hx]
        omega
      have qy : IntKind.i64.wrap ((k : Int) / 8) = (y : Int) := by
        rw [hy]
        exact IntWalk.i64_in _ (by omega)
      have hfk : f x y = L.getD k 0 := by rw [HA.out k hlt, hx, hy]
      have hcl := fun (wx : World) (hx : Only [] w wx) => HF.out wx x y hx hx1 hy1
      have Hcl := Lib.hid hcl
      have Hfk := Lib.hid hfk
      have Hown := Lib.hid hown
      have Ho := Lib.hid ho
      have hsz := ho.size
      obtain ⟨i2, hi2, hz2, hs2, hb2⟩ := info_parts elt64.hi
      have Hi2 := Lib.hid hi2
      have Hz2 := Lib.hid hz2
      have Hs2 := Lib.hid hs2
      have Hb2 := Lib.hid hb2
      clear hx hy hfk hcl hown ho hi2 hz2 hs2 hb2
      generalize f x y = u at *
      go_wp2
      go_region_law (first
        | (go_simp; refine (Hcl.out _ (by first | exact Ho.out | exact Ho.out.drew)).mono ?_; rintro r w' ⟨rfl, rfl⟩)
        | (refine step_append_lies _ (by rfl) _ _ _ (by rfl) w.heap.size 3 i2 _ 1 8 Tryz.underlying58 Hi2.out Hz2.out Hs2.out Hb2.out rfl (by omega) (.slice av k cv) k _ (by rfl) (by first | exact (Hown.out.alloc _).drew | exact Hown.out.drew.alloc _)
            ⟨wr.heap.size, 0, none⟩ 1 1 [.int .i64 u] (by rfl) (by rfl) (World.news_of_block (cs := #[.int .i64 u]) (t := 3) (fr := (0, 0)) (heap_alloc_new wr _)) (by simp [Value.oneCell'])
            (by omega) (by unfold maxLen; omega) (by omega) (by simp; omega) (wr.heap.size + 1) (by simp) ?_
           intro gg cap2 w2 hown2 hgrow hat hlt2
           have Hown2 := Lib.hid hown2
           have Hgrow := Lib.hid hgrow
           clear hown2 hgrow hat))
      all_goals
        have o1 := (((Only.refl [] wr).alloc (.cells #[.int .i64 u] 3)).drew)
        have p1 : Only [] w w2 := Ho.out.trans' ((o1.mono (fun i hi => by simp at hi)).grown (S := (Value.slice av k cv).ownBlock.toList) Hgrow.out (fun i hi => .inl (by simp [hi]))) (fun i hi => .inr (own_ge Hown.out i (by simpa using hi)))
        have p2 := Hown2.out
        rw [Hfk.out, take_push L k (by rw [HL.out]; exact hlt)] at p2
        have P1 := Lib.hid p1
        have P2 := Lib.hid p2
        clear o1 p1 p2
        go_wp2
        go_roundw
        case rel => exact ⟨k + 1, by omega, by go_num, _, _, rfl, P2.out, P1.out⟩
        case measure => simp [intOf] <;> omega
    · obtain rfl : k = 64 := by omega
      rw [List.take_of_length_le (by rw [HL.out]; omega)] at hown
      have H1 := Lib.hid hown
      have H2 := Lib.hid ho
      clear hown ho
      go_wp2
      go_ret
      exact ⟨_, rfl, H1.out, H2.out⟩

/-- A function that takes a sample of an edge, or a number that is there. -/
theorem at_edge {w : World} {c e : Nat} {s1 s2 co : Value} {Tc T : TypeId} {xs : List Int} (hc : w.heap[c]? = some (.cells #[.pointer (some ⟨e, 0, none⟩)] Tc (0, 0))) (he : w.heap[e]? = some (.cells #[s1, s2, co] T (0, 0))) (hs : IntSlice w s1 xs) (y : Nat) (hy : y < xs.length) :
    ∃ g o cap, w.cell? ⟨c, 0, none⟩ = some (.pointer (some ⟨e, 0, none⟩)) ∧ w.cell? ⟨e, 0, none⟩ = some (.slice (some ⟨g, o, none⟩) xs.length cap) ∧ w.cell? ⟨g, o + y, none⟩ = some (.int .i64 (xs.getD y 0)) := by
  obtain ⟨ao, cap, rfl, h⟩ := hs
  rcases h with rfl | ⟨g, o, rfl, hx⟩
  · simp at hy
  · exact ⟨g, o, cap, by rw [cells_of hc]; rfl, by rw [cells_of he]; rfl, hx y hy⟩

theorem whole_left {w : World} {c e : Nat} {s1 s2 co : Value} {Tc T : TypeId} {xs : List Int} (hc : w.heap[c]? = some (.cells #[.pointer (some ⟨e, 0, none⟩)] Tc (0, 0))) (he : w.heap[e]? = some (.cells #[s1, s2, co] T (0, 0))) (hs : IntSlice w s1 xs) (x y : Nat) (hy : y < xs.length) :
    Calls Tryz.prog 118 #[.int .i64 (x : Int), .int .i64 (y : Int), .pointer (some ⟨c, 0, none⟩)] w fun e w' => e = .returned (.int .i64 (xs.getD y 0)) ∧ w = w' := by
  obtain ⟨g, o, cap, c1, c2, c3⟩ := at_edge hc he hs y hy
  obtain ⟨n, hn⟩ : ∃ n, n = xs.length := ⟨_, rfl⟩
  obtain ⟨u, hu⟩ : ∃ u, u = xs.getD y 0 := ⟨_, rfl⟩
  rw [← hn] at hy c2
  rw [← hu] at c3 ⊢
  clear hc he hs hn hu
  go_enter Tryz.func118, Tryz.ntmps118
  go_wp2
  go_ret
  exact ⟨rfl, rfl⟩

theorem chroma_left {w : World} {c e : Nat} {s1 s2 co : Value} {Tc T : TypeId} {xs : List Int} (hc : w.heap[c]? = some (.cells #[.pointer (some ⟨e, 0, none⟩)] Tc (0, 0))) (he : w.heap[e]? = some (.cells #[s1, s2, co] T (0, 0))) (hs : IntSlice w s1 xs) (x y : Nat) (hy : y < xs.length) :
    Calls Tryz.prog 111 #[.int .i64 (x : Int), .int .i64 (y : Int), .pointer (some ⟨c, 0, none⟩)] w fun e w' => e = .returned (.int .i64 (xs.getD y 0)) ∧ w = w' := by
  obtain ⟨g, o, cap, c1, c2, c3⟩ := at_edge hc he hs y hy
  obtain ⟨n, hn⟩ : ∃ n, n = xs.length := ⟨_, rfl⟩
  obtain ⟨u, hu⟩ : ∃ u, u = xs.getD y 0 := ⟨_, rfl⟩
  rw [← hn] at hy c2
  rw [← hu] at c3 ⊢
  clear hc he hs hn hu
  go_enter Tryz.func111, Tryz.ntmps111
  go_wp2
  go_ret
  exact ⟨rfl, rfl⟩

theorem whole_mean {w : World} {c : Nat} {Tc : TypeId} (m : Int) (hc : w.heap[c]? = some (.cells #[.int .i64 m] Tc (0, 0))) (x y : Nat) :
    Calls Tryz.prog 120 #[.int .i64 (x : Int), .int .i64 (y : Int), .pointer (some ⟨c, 0, none⟩)] w fun e w' => e = .returned (.int .i64 m) ∧ w = w' := by
  have c1 : w.cell? ⟨c, 0, none⟩ = some (.int .i64 m) := by rw [cells_of hc]; rfl
  clear hc
  go_enter Tryz.func120, Tryz.ntmps120
  go_wp2
  go_ret
  exact ⟨rfl, rfl⟩
end Go.Proofs.YtcmehedjdfopdaaGreat

namespace Go.Proofs.YtcmehedjdfopdaaGreat
open Go.RowKit

theorem IntSlice.on {w w' : World} {v : Value} {xs : List Int} (h : IntSlice w v xs) (ho : Only [] w w') : IntSlice w' v xs := by
  obtain ⟨ao, cap, rfl, h⟩ := h
  refine ⟨ao, cap, rfl, ?_⟩
  rcases h with h | ⟨g, o, rfl, hx⟩
  · exact .inl h
  · exact .inr ⟨g, o, rfl, fun i hi => ho.cell (hx i hi) (by simp)⟩
theorem own_mono {w : World} {B C k s : Nat} {e : TypeId} {xs : List Value} {v : Value} (h : w.ownsRow B e s v k xs) (hC : C ≤ B) : w.ownsRow C e s v k xs := by
  refine ⟨h.1, ?_⟩
  rcases h.2 with hn | ⟨g, cap, cur, rfl, hb, r⟩
  · exact .inl hn
  · exact .inr ⟨g, cap, cur, rfl, Nat.le_trans hC hb, r⟩
theorem ent_left (c : Array Value) (w : World) : (callFunc 118 c).run Tryz.prog w = .ok (.enter 118 c) w := run_enter Tryz.func118 (by kernel_rfl) (by kernel_rfl) c w
theorem ent_mean (c : Array Value) (w : World) : (callFunc 120 c).run Tryz.prog w = .ok (.enter 120 c) w := run_enter Tryz.func120 (by kernel_rfl) (by kernel_rfl) c w

set_option maxRecDepth 100000 in
set_option maxHeartbeats 1600000 in
theorem whole_h (vl vt : Value) (xs : List Int) (corner : Int) (w : World) (hvl : IntSlice w vl xs) (hvt : IntSlice w vt []) (hl : xs.length = 16) (hx : ∀ i, i < xs.length → 0 ≤ xs.getD i 0 ∧ xs.getD i 0 ≤ 255) (c0 : -1 ≤ corner) (c1 : corner ≤ 255) :
    Calls Tryz.prog 85 #[.int .i64 1, vl, vt, .int .i64 corner] w fun e w' => ∃ v, e = .returned (.tuple #[v, .int .i64 0]) ∧ w'.ownsRow w.heap.size 3 1 v 256 ((flatL 16 (fun _ y => xs.getD y 0)).map (Value.int .i64)) ∧ Only [] w w' := by
  have hof := intra_of vl vt xs [] corner 16 16 w hvl hvt (.inr hl) (.inl rfl) (by omega) (by omega) hx (by simp) c0 c1
  obtain ⟨ao, cap, rfl, -⟩ := hvl
  obtain ⟨ap, cup, rfl, -⟩ := hvt
  rw [hl] at hof ⊢
  have Hof := Lib.hid hof
  have Hl := Lib.hid hl
  clear hof hl hx
  go_enter Tryz.func85, Tryz.ntmps85
  go_wp2_with fail
  refine Hof.out.mono ?_
  rintro r w1 ⟨g, s1, s2, rfl, hg, hs1, hs2, hge, ho⟩
  obtain ⟨a1, p1, rfl, q1⟩ := id hs1
  obtain ⟨a2, p2, rfl, q2⟩ := id hs2
  rw [Hl.out] at hg hs1
  have Hg := Lib.hid hg
  have Hs1 := Lib.hid hs1
  have Hs2 := Lib.hid hs2
  have Ho := Lib.hid ho
  clear hg hs1 hs2 ho q1 q2
  go_wp2_with fail
  refine (intra_flat16 118 _ (fun _ y => xs.getD y 0) _ ent_left (fun wr x y hw _ hy => whole_left (hw.heap (heap_alloc_at w1 _) (by simp)) (hw.heap (heap_alloc_lt _ Hg.out) (by simp)) ((Hs1.out.on ((Only.refl [] w1).alloc _)).on hw) x y (by rw [Hl.out]; exact hy))).mono ?_
  rintro r w2 ⟨v, rfl, hv, hw⟩
  have hv2 : w2.ownsRow w.heap.size 3 1 v 256 ((flatL 16 (fun _ y => xs.getD y 0)).map (Value.int .i64)) := own_mono hv (by have := Ho.out.size; simp; omega)
  have Hv := Lib.hid hv2
  have Hw : Hid (Only [] w w2) := Lib.hid ((Ho.out.alloc _).trans hw)
  clear hv hv2 hw
  go_wp2
  go_ret2
  exact ⟨_, rfl, Hv.out, Hw.out⟩
end Go.Proofs.YtcmehedjdfopdaaGreat

namespace Go.Proofs.YtcmehedjdfopdaaGreat
open Go.RowKit

theorem pair0 (w : World) (a b : Value) (t : TypeId) : (w.alloc (.cells #[a, b] t)).drew.cell? ⟨w.heap.size, 0, none⟩ = some a := cells_of (heap_alloc_at w _) 0
theorem pair1 (w : World) (a b : Value) (t : TypeId) : (w.alloc (.cells #[a, b] t)).drew.cell? ⟨w.heap.size, 1, none⟩ = some b := cells_of (heap_alloc_at w _) 1
theorem pair0' (w : World) (o : Obj) (a b : Value) (t : TypeId) : ((w.alloc o).alloc (.cells #[a, b] t)).drew.cell? ⟨w.heap.size + 1, 0, none⟩ = some a := by
  have h := pair0 (w.alloc o) a b t
  rwa [World.size_alloc] at h
theorem pair1' (w : World) (o : Obj) (a b : Value) (t : TypeId) : ((w.alloc o).alloc (.cells #[a, b] t)).drew.cell? ⟨w.heap.size + 1, 1, none⟩ = some b := by
  have h := pair1 (w.alloc o) a b t
  rwa [World.size_alloc] at h
theorem pair0'' (w : World) (o : Obj) (a b : Value) (t : TypeId) : ((w.alloc (.cells #[a, b] t)).alloc o).drew.cell? ⟨w.heap.size, 0, none⟩ = some a := cells_of (heap_alloc_lt o (heap_alloc_at w (.cells #[a, b] t))) 0
theorem pair1'' (w : World) (o : Obj) (a b : Value) (t : TypeId) : ((w.alloc (.cells #[a, b] t)).alloc o).drew.cell? ⟨w.heap.size, 1, none⟩ = some b := cells_of (heap_alloc_lt o (heap_alloc_at w (.cells #[a, b] t))) 1
theorem second_at (w : World) (x y : Obj) : ((w.alloc x).alloc y).drew.heap[w.heap.size + 1]? = some y := by
  have h := heap_alloc_at (w.alloc x) y
  rwa [World.size_alloc] at h
theorem first_at (w : World) (x y : Obj) : ((w.alloc x).alloc y).drew.heap[w.heap.size]? = some x := heap_alloc_lt y (heap_alloc_at w x)
theorem only_alloc2_drew (w : World) (x y : Obj) : Only [] w ((w.alloc x).alloc y).drew := (((Only.refl [] w).alloc x).alloc y).drew

set_option maxRecDepth 100000 in
set_option maxHeartbeats 1600000 in
theorem whole_no (m : Int) (hm : m = 0 ∨ m = 1 ∨ m = 3) (vl vt : Value) (corner : Int) (w : World) (hvl : IntSlice w vl []) (hvt : IntSlice w vt []) (c0 : -1 ≤ corner) (c1 : corner ≤ 255) :
    Calls Tryz.prog 85 #[.int .i64 m, vl, vt, .int .i64 corner] w fun e w' => e = .returned (.tuple #[.slice none 0 0, .int .i64 1101]) ∧ Only [] w w' := by
  have hof := intra_of vl vt [] [] corner 16 16 w hvl hvt (.inl rfl) (.inl rfl) (by omega) (by omega) (by simp) (by simp) c0 c1
  obtain ⟨ao, cap, rfl, -⟩ := hvl
  obtain ⟨ap, cup, rfl, -⟩ := hvt
  have Hof := Lib.hid hof
  clear hof
  rcases hm with rfl | rfl | rfl
  all_goals
    go_enter Tryz.func85, Tryz.ntmps85
    go_wp2_with fail
    refine Hof.out.mono ?_
    rintro r w1 ⟨g, s1, s2, rfl, hg, hs1, hs2, hge, ho⟩
    obtain ⟨a1, p1, rfl, -⟩ := hs1
    obtain ⟨a2, p2, rfl, -⟩ := hs2
    have d0 : w1.cell? ⟨g, 0, none⟩ = some (.slice a1 0 p1) := by rw [cells_of hg]; rfl
    have hgb := lt_of_block hg
    have Ho := Lib.hid ho
    clear hg ho
    go_wp2
    go_ret2
    exact ⟨rfl, Ho.out.alloc _⟩

set_option maxRecDepth 100000 in
set_option maxHeartbeats 800000 in
theorem whole_dc (vl vt : Value) (xs ys : List Int) (corner : Int) (w : World) (hvl : IntSlice w vl xs) (hvt : IntSlice w vt ys) (hl : xs.length = 0 ∨ xs.length = 16) (ht : ys.length = 0 ∨ ys.length = 16)
    (hx : ∀ i, i < xs.length → 0 ≤ xs.getD i 0 ∧ xs.getD i 0 ≤ 255) (hy : ∀ i, i < ys.length → 0 ≤ ys.getD i 0 ∧ ys.getD i 0 ≤ 255) (c0 : -1 ≤ corner) (c1 : corner ≤ 255) :
    Calls Tryz.prog 85 #[.int .i64 2, vl, vt, .int .i64 corner] w fun e w' => ∃ v, e = .returned (.tuple #[v, .int .i64 0]) ∧ w'.ownsRow w.heap.size 3 1 v 256 ((flatL 16 (fun _ _ => meanOf xs ys)).map (Value.int .i64)) ∧ Only [] w w' := by
  have hof := intra_of vl vt xs ys corner 16 16 w hvl hvt hl ht (by omega) (by omega) hx hy c0 c1
  obtain ⟨ao, cap, rfl, -⟩ := hvl
  obtain ⟨ap, cup, rfl, -⟩ := hvt
  have hl100 : xs.length ≤ 100 := by omega
  have ht100 : ys.length ≤ 100 := by omega
  have Hof := Lib.hid hof
  have Hx := Lib.hid hx
  have Hy := Lib.hid hy
  have Hl := Lib.hid hl100
  have Ht := Lib.hid ht100
  obtain ⟨m, hm⟩ : ∃ m, m = meanOf xs ys := ⟨_, rfl⟩
  rw [← hm]
  have HM := Lib.hid hm
  clear hof hl ht hx hy hl100 ht100 hm
  go_enter Tryz.func85, Tryz.ntmps85
  go_wp2_with fail
  refine Hof.out.mono ?_
  rintro r w1 ⟨g, s1, s2, rfl, hg, hs1, hs2, hge, ho⟩
  have hme := fun (b : Nat) (wx : World) (k0 : wx.cell? ⟨b, 0, none⟩ = some s1) (k1 : wx.cell? ⟨b, 1, none⟩ = some s2) (hw : Only [] w1 wx) => intra_mean b s1 s2 xs ys wx k0 k1 (hs1.on hw) (hs2.on hw) Hl.out Ht.out Hx.out Hy.out
  rw [← HM.out] at hme
  obtain ⟨a1, p1, rfl, -⟩ := hs1
  obtain ⟨a2, p2, rfl, -⟩ := hs2
  generalize xs.length = n1 at *
  generalize ys.length = n2 at *
  have d0 : w1.cell? ⟨g, 0, none⟩ = some (.slice a1 n1 p1) := by rw [cells_of hg]; rfl
  have d1 : w1.cell? ⟨g, 1, none⟩ = some (.slice a2 n2 p2) := by rw [cells_of hg]; rfl
  have hgb := lt_of_block hg
  have Hme := Lib.hid hme
  have Hg := Lib.hid hg
  have Ho := Lib.hid ho
  clear hg ho hme
  go_wp2_with fail
  have x0 : (w1.alloc (.cells #[.pointer (some ⟨g, 0, none⟩)] 201)).cell? ⟨w1.heap.size, 0, none⟩ = some (.pointer (some ⟨g, 0, none⟩)) := by rw [cells_of (heap_alloc_at w1 _)]; rfl
  have x1 := cell_alloc (o := .cells #[.pointer (some ⟨g, 0, none⟩)] 201) d0
  have x2 := cell_alloc (o := .cells #[.pointer (some ⟨g, 0, none⟩)] 201) d1
  have O1 : Hid (Only [] w1 (w1.alloc (.cells #[.pointer (some ⟨g, 0, none⟩)] 201))) := Lib.hid ((Only.refl [] w1).alloc _)
  have hcb : w1.heap.size < (w1.alloc (.cells #[.pointer (some ⟨g, 0, none⟩)] 201)).heap.size := by simp
  generalize w1.alloc (.cells #[.pointer (some ⟨g, 0, none⟩)] 201) = w2 at *
  generalize w1.heap.size = cb at *
  clear d0 d1
  go_region_held3 (fun w' => w'.cell? ⟨cb, 0, none⟩ = some (.pointer (some ⟨g, 0, none⟩)) ∧ w'.cell? ⟨g, 0, none⟩ = some (.slice a1 n1 p1) ∧ w'.cell? ⟨g, 1, none⟩ = some (.slice a2 n2 p2)) ((refine ⟨?_, ?_, ?_⟩ <;> (repeat (first | with_reducible assumption | (with_reducible refine cell_set ?_ (by simp; omega)) | with_reducible refine cell_alloc ?_ | with_reducible refine cell_drew ?_))))
    (((first
      | with_reducible refine (Hme.out _ _ (pair0 w2 _ _ _) (pair1 w2 _ _ _) (O1.out.trans (only_alloc_drew w2 _))).mono ?_
      | with_reducible refine (Hme.out _ _ (pair0' w2 _ _ _ _) (pair1' w2 _ _ _ _) (O1.out.trans (only_alloc2_drew w2 _ _))).mono ?_
      | with_reducible refine (Hme.out _ _ (pair0'' w2 _ _ _ _) (pair1'' w2 _ _ _ _) (O1.out.trans (only_alloc2_drew w2 _ _))).mono ?_)
      rintro r w' ⟨rfl, rfl⟩))
  all_goals
    go_wp2_with fail
    first
      | with_reducible refine (intra_flat16 120 (.pointer (some ⟨w2.heap.size + 1, 0, none⟩)) (fun _ _ => m) _ ent_mean (fun wr x y hw _ _ => whole_mean m (hw.heap (second_at w2 _ _) (by simp)) x y)).mono ?_
      | with_reducible refine (intra_flat16 120 (.pointer (some ⟨w2.heap.size, 0, none⟩)) (fun _ _ => m) _ ent_mean (fun wr x y hw _ _ => whole_mean m (hw.heap (first_at w2 _ _) (by simp)) x y)).mono ?_
    rintro r w3 ⟨v, rfl, hv, hw⟩
    have hv2 : w3.ownsRow w.heap.size 3 1 v 256 ((flatL 16 (fun _ _ => m)).map (Value.int .i64)) := own_mono hv (by have := Ho.out.size; have := O1.out.size; simp; omega)
    have Hv := Lib.hid hv2
    have Hw : Hid (Only [] w w3) := Lib.hid ((Ho.out.trans (O1.out.trans (only_alloc2_drew w2 _ _))).trans hw)
    clear hv hv2 hw
    go_wp2
    go_ret2
    exact ⟨_, rfl, Hv.out, Hw.out⟩
end Go.Proofs.YtcmehedjdfopdaaGreat
