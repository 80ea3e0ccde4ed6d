/-
  Plain facts for the law ReconPcm: what was laid down is read again; what is kept of macroblocks of samples. The walks over small functions of the filter: near, size, Strength, within, ChromaQp, qp. The walk over package recon's filterer.at.
-/
import Derived.Test.YtcmehedjdfopdaaGreatJ44
import Derived.Test.YtcmehedjdfopdaaGreatJ42
import Derived.Test.YtcmehedjdfopdaaGreatJ17
namespace Go.Proofs.YtcmehedjdfopdaaGreat
open Go Go.RowKit

theorem div_row (a r pw : Nat) (h : r < pw) : (a * pw + r) / pw = a := by rw [Nat.mul_comm, Nat.mul_add_div (by omega), Nat.div_eq_of_lt h, Nat.add_zero]
theorem spot_inj {pw x y w i j : Nat} (hw : 0 < w) (hx : x + w ≤ pw) (h : spot pw x y w i = spot pw x y w j) : i = j := by
  unfold spot at h
  have mi := Nat.mod_lt i hw
  have mj := Nat.mod_lt j hw
  have e1 : ((y + i / w) * pw + x + i % w) / pw = y + i / w := by rw [Nat.add_assoc]; exact div_row _ _ _ (by omega)
  have e2 : ((y + j / w) * pw + x + j % w) / pw = y + j / w := by rw [Nat.add_assoc]; exact div_row _ _ _ (by omega)
  have e3 : i / w = j / w := by
    rw [h, e2] at e1
    omega
  rw [e3] at h
  have e4 : i % w = j % w := by omega
  rw [← Nat.div_add_mod i w, ← Nat.div_add_mod j w, e3, e4]
theorem putTo_at (pw x y w : Nat) (block pl : List Int) (hw : 0 < w) (hx : x + w ≤ pw) (i : Nat) : ∀ k, i < k → (∀ j, j < k → spot pw x y w j < pl.length) → (putTo pw x y w block pl k).getD (spot pw x y w i) 0 = block.getD i 0
  | 0, h, _ => absurd h (by omega)
  | k + 1, h, hin => by
    show ((putTo pw x y w block pl k).set (spot pw x y w k) (block.getD k 0)).getD (spot pw x y w i) 0 = block.getD i 0
    rw [getD_set', putTo_length]
    by_cases hk : k = i
    · subst hk
      rw [if_pos ⟨rfl, hin k (by omega)⟩]
    · rw [if_neg (fun hh => hk (spot_inj hw hx hh.1))]
      exact putTo_at pw x y w block pl hw hx i k (by omega) (fun j hj => hin j (by omega))
theorem fill_at (f : Nat → Int) (n i : Nat) (h : i < n) : (fillTo f n n).getD i 0 = f i := by
  rw [fillTo_full, List.getD_eq_getElem?_getD, List.getElem?_map, List.getElem?_range h]
  rfl
theorem in_plane {s wide high x y j : Nat} (hs : 0 < s) (hx : x < wide) (hy : y < high) (hj : j < s * s) : spot (s * wide) (x * s) (y * s) s j < s * s * (wide * high) := by
  unfold spot
  have hd : j / s < s := Nat.div_lt_of_lt_mul hj
  have hm := Nat.mod_lt j hs
  have e1 : (y * s + j / s + 1) * (s * wide) ≤ (high * s) * (s * wide) := Nat.mul_le_mul_right _ (by
    have : (y + 1) * s ≤ high * s := Nat.mul_le_mul_right _ hy
    rw [Nat.add_mul, Nat.one_mul] at this
    omega)
  have e2 : x * s + s ≤ s * wide := by
    have : (x + 1) * s ≤ wide * s := Nat.mul_le_mul_right _ hx
    rw [Nat.add_mul, Nat.one_mul, Nat.mul_comm wide s] at this
    exact this
  rw [Nat.add_mul, Nat.one_mul] at e1
  have e3 : (high * s) * (s * wide) = s * s * (wide * high) := by
    rw [Nat.mul_comm high s, Nat.mul_assoc, Nat.mul_assoc, Nat.mul_left_comm high s wide, Nat.mul_comm high wide]
  omega
theorem row_fits {s wide x : Nat} (hx : x < wide) : x * s + s ≤ s * wide := by
  have : (x + 1) * s ≤ wide * s := Nat.mul_le_mul_right _ hx
  rw [Nat.add_mul, Nat.one_mul, Nat.mul_comm wide s] at this
  exact this
theorem luma_at {wide high x y i : Nat} (f : Nat → Int) {Y : List Int} (hY : Y.length = 256 * (wide * high)) (hx : x < wide) (hy : y < high) (hi : i < 256) : (lumaP wide x y f Y).getD ((y * 16 + i / 16) * 16 * wide + x * 16 + i % 16) 0 = f i := by
  have e : (y * 16 + i / 16) * 16 * wide + x * 16 + i % 16 = spot (16 * wide) (x * 16) (y * 16) 16 i := by unfold spot; rw [Nat.mul_assoc]
  rw [e]
  unfold lumaP
  rw [putTo_at _ _ _ _ _ _ (by omega) (row_fits hx) i 256 hi (fun j hj => by rw [hY]; exact in_plane (s := 16) (by omega) hx hy hj), fill_at _ _ _ hi, Nat.zero_add]
theorem chroma_at {wide high x y i o : Nat} (f : Nat → Int) {U : List Int} (hU : U.length = 64 * (wide * high)) (hx : x < wide) (hy : y < high) (hi : i < 64) : (chromaP wide x y o f U).getD ((y * 8 + i / 8) * 8 * wide + x * 8 + i % 8) 0 = f (o + i) := by
  have e : (y * 8 + i / 8) * 8 * wide + x * 8 + i % 8 = spot (8 * wide) (x * 8) (y * 8) 8 i := by unfold spot; rw [Nat.mul_assoc]
  rw [e]
  unfold chromaP
  rw [putTo_at _ _ _ _ _ _ (by omega) (row_fits hx) i 64 hi (fun j hj => by rw [hU]; exact in_plane (s := 8) (by omega) hx hy hj), fill_at _ _ _ hi]

/-- What is kept of macroblocks of samples, one by one. -/
def PcmKept (sb k : Nat) (D : List Value) : Prop := D.length = k * 23 ∧ ∀ a, a < k → D[a * 23]? = some (.pointer (some ⟨sb, 0, none⟩)) ∧ D[a * 23 + 1]? = some (.int .i64 2) ∧ D[a * 23 + 2]? = some (.int .i64 0)
theorem PcmKept.nil (sb : Nat) : PcmKept sb 0 [] := ⟨rfl, fun a h => absurd h (by omega)⟩
theorem PcmKept.add {sb k : Nat} {D : List Value} (h : PcmKept sb k D) (p0 p1 p2 p3 : Value) : PcmKept sb (k + 1) (D ++ elemD sb 2 0 [p0, p1, p2, p3]) := by
  obtain ⟨h1, h2⟩ := h
  refine ⟨by simp [h1, elemD]; omega, fun a ha => ?_⟩
  by_cases hk : a < k
  · obtain ⟨a1, a2, a3⟩ := h2 a hk
    have hl : a * 23 + 2 < D.length := by omega
    refine ⟨?_, ?_, ?_⟩
    · rw [List.getElem?_append_left (by omega)]; exact a1
    · rw [List.getElem?_append_left (by omega)]; exact a2
    · rw [List.getElem?_append_left (by omega)]; exact a3
  · obtain rfl : a = k := by omega
    refine ⟨?_, ?_, ?_⟩
    · rw [List.getElem?_append_right (by omega), h1, Nat.sub_self]; rfl
    · rw [List.getElem?_append_right (by omega), h1, Nat.add_sub_cancel_left]; rfl
    · rw [List.getElem?_append_right (by omega), h1, Nat.add_sub_cancel_left]; rfl
theorem PcmKept.drw {w : World} {B k g cap sb : Nat} {D : List Value} (h : w.ownsRow B 94 23 (.slice (some ⟨g, 0, none⟩) k cap) k D) (hk : PcmKept sb k D) : ∀ a, a < k → w.cell? ⟨g, a * 23, none⟩ = some (.pointer (some ⟨sb, 0, none⟩)) ∧ w.cell? ⟨g, a * 23 + 1, none⟩ = some (.int .i64 2) ∧ w.cell? ⟨g, a * 23 + 2, none⟩ = some (.int .i64 0) := by
  intro a ha
  obtain ⟨a1, a2, a3⟩ := hk.2 a ha
  rcases h.2 with ⟨hv, _⟩ | ⟨g', cap', cur, hv, _⟩
  · cases hv
  · injection hv with h1 h2 h3
    injection h1 with h1
    injection h1 with h1
    subst h1 h3
    exact ⟨by rw [h.cellAt _ (by omega)]; exact a1, by rw [h.cellAt _ (by omega)]; exact a2, by rw [h.cellAt _ (by omega)]; exact a3⟩

/-- The bytes that the law hands in: by the list that came in, or by a sum. -/
def pcmOf (bs : List Int) (k i : Nat) : Int := if 0 < bs.length then bs.getD ((i + k * 5) % bs.length) 0 else ((i * (k + 3) + i / 7 : Nat) : Int) % 256
/-- The law's way to a sample's place, step by step. -/
structure Idx (S wide k i kd kx a b c d e f m q r : Nat) : Prop where
  u1 : IntKind.i64.wrap ((kd : Int) * S) = (a : Int)
  u2 : IntKind.i64.wrap ((i : Int) / S) = (b : Int)
  u3 : IntKind.i64.wrap ((a : Int) + (b : Int)) = (c : Int)
  u4 : IntKind.i64.wrap ((c : Int) * S) = (d : Int)
  u5 : IntKind.i64.wrap ((d : Int) * (wide : Int)) = (e : Int)
  u6 : IntKind.i64.wrap ((kx : Int) * S) = (f : Int)
  u7 : (i : Int).tmod S = (m : Int)
  u8 : IntKind.i64.wrap ((e : Int) + (f : Int)) = (q : Int)
  u9 : IntKind.i64.wrap ((q : Int) + (m : Int)) = (r : Int)
  ie : r = (kd * S + i / S) * S * wide + kx * S + i % S
theorem idx_ok (S wide k i kd kx : Nat) (hS2 : S ≤ 16) (hw : wide ≤ 2) (hd : kd ≤ 1) (hx : kx ≤ 1) (hi : i ≤ 256) : ∃ a b c d e f m q r, Idx S wide k i kd kx a b c d e f m q r := by
  have n1 : kd * S ≤ 1 * 16 := Nat.mul_le_mul hd hS2
  have n2 : i / S ≤ i := Nat.div_le_self _ _
  have n3 : (kd * S + i / S) * S ≤ 272 * 16 := Nat.mul_le_mul (by omega) hS2
  have n4 : (kd * S + i / S) * S * wide ≤ 272 * 16 * 2 := Nat.mul_le_mul n3 hw
  have n5 : kx * S ≤ 1 * 16 := Nat.mul_le_mul hx hS2
  have n6 : i % S ≤ i := Nat.mod_le _ _
  refine ⟨kd * S, i / S, kd * S + i / S, (kd * S + i / S) * S, (kd * S + i / S) * S * wide, kx * S, i % S, (kd * S + i / S) * S * wide + kx * S, (kd * S + i / S) * S * wide + kx * S + i % S, ?_, ?_, ?_, ?_, ?_, ?_, ?_, ?_, ?_, rfl⟩
  · rw [← Int.natCast_mul]; exact i64n _ (by omega)
  · rw [show (i : Int) / (S : Int) = ((i / S : Nat) : Int) from (Int.natCast_ediv i S).symm]; exact i64n _ (by omega)
  · rw [← Int.natCast_add]; exact i64n _ (by omega)
  · rw [← Int.natCast_mul]; exact i64n _ (by omega)
  · rw [← Int.natCast_mul]; exact i64n _ (by omega)
  · rw [← Int.natCast_mul]; exact i64n _ (by omega)
  · rw [Int.tmod_eq_emod_of_nonneg (by omega)]; rfl
  · rw [← Int.natCast_add]; exact i64n _ (by omega)
  · rw [← Int.natCast_add]; exact i64n _ (by omega)
theorem Idx.spot {S wide k i kd kx a b c d e f m q r : Nat} (h : Idx S wide k i kd kx a b c d e f m q r) : r = spot (S * wide) (kx * S) (kd * S) S i := by
  rw [h.ie]
  unfold Go.Proofs.YtcmehedjdfopdaaGreat.spot
  rw [Nat.mul_assoc]
end Go.Proofs.YtcmehedjdfopdaaGreat

namespace Go.Proofs.YtcmehedjdfopdaaGreat
open Go Go.RowKit

theorem ed_near (x : Int) (w : World) : Calls Tryz.prog 174 #[.int .i64 x] w fun e w' => e = .returned (.int .i64 (min (max x 0) 51)) ∧ w = w' := by
  go_enter Tryz.func174, Tryz.ntmps174
  go_wp2 <;> go_ret <;> exact ⟨ret_int (by omega), rfl⟩
theorem ed_size (x : Int) (h0 : -1000 ≤ x) (h1 : x ≤ 1000) (w : World) : Calls Tryz.prog 175 #[.int .i64 x] w fun e w' => e = .returned (.int .i64 (max x (-x))) ∧ w = w' := by
  have q : IntKind.i64.wrap (-x) = -x := i64w _ (by omega) (by omega)
  go_enter Tryz.func175, Tryz.ntmps175
  go_wp2 <;> go_ret <;> exact ⟨ret_int (by omega), rfl⟩
theorem ed_strength (bo : Bool) (b1 b2 b3 : Value) (w : World) : Calls Tryz.prog 131 #[.bool true, .bool bo, b1, b2, b3] w fun e w' => e = .returned (.int .i64 (if bo then 4 else 3)) ∧ w = w' := by
  cases bo
  all_goals
    go_enter Tryz.func131, Tryz.ntmps131
    go_wp2
    go_ret
    exact ⟨rfl, rfl⟩
theorem ed_strength_none (bo : Bool) (w : World) : Calls Tryz.prog 131 #[.bool false, .bool bo, .bool false, .bool false, .bool false] w fun e w' => e = .returned (.int .i64 0) ∧ w = w' := by
  go_enter Tryz.func131, Tryz.ntmps131
  go_wp2
  go_ret
  exact ⟨rfl, rfl⟩
theorem re_within (kd : Int) (w : World) : Calls Tryz.prog 130 #[.int .i64 kd] w fun e w' => e = .returned (.bool (decide (kd = 0 ∨ kd = 1 ∨ kd = 2))) ∧ w = w' := by
  by_cases h0 : kd = 0
  · subst h0
    go_enter Tryz.func130, Tryz.ntmps130
    go_wp2
    go_ret
    exact ⟨rfl, rfl⟩
  · by_cases h1 : kd = 1
    · subst h1
      go_enter Tryz.func130, Tryz.ntmps130
      go_wp2
      go_ret
      exact ⟨rfl, rfl⟩
    · by_cases h2 : kd = 2
      · subst h2
        go_enter Tryz.func130, Tryz.ntmps130
        go_wp2
        go_ret
        exact ⟨rfl, rfl⟩
      · have b0 : ((kd : Int) == 0) = false := by simpa using h0
        have b1 : ((kd : Int) == 1) = false := by simpa using h1
        have b2 : ((kd : Int) == 2) = false := by simpa using h2
        rw [decide_eq_false (by omega)]
        clear h0 h1 h2
        go_enter Tryz.func130, Tryz.ntmps130
        go_wp2
        go_ret
        exact ⟨rfl, rfl⟩
theorem cqp_one (w : World) : Calls Tryz.prog 155 #[.int .i64 0] w fun e w' => e = .returned (.int .i64 0) ∧ w = w' := by
  go_enter Tryz.func155, Tryz.ntmps155
  go_wp2
  go_ret
  exact ⟨rfl, rfl⟩
theorem qu_cqp0 (w : World) : Calls Tryz.prog 115 #[.int .i64 0, .int .i64 0] w fun e w' => e = .returned (.int .i64 0) ∧ w = w' := by
  go_enter Tryz.func115, Tryz.ntmps115
  go_wp2_with fail
  refine (cqp_one _).mono ?_
  rintro e w' ⟨rfl, rfl⟩
  go_wp2_with fail
  refine (cqp_one _).mono ?_
  rintro e w' ⟨rfl, rfl⟩
  go_wp2
  go_ret
  exact ⟨rfl, rfl⟩

/-- What the filter reads of a macroblock that was drawn: its slice, its kind, its qp. -/
structure DrwAt (w : World) (d : Addr) (sb : Nat) (kd qp : Int) : Prop where
  sp : d.spot = none
  c0 : w.cell? ⟨d.block, d.off, none⟩ = some (.pointer (some ⟨sb, 0, none⟩))
  c1 : w.cell? ⟨d.block, d.off + 1, none⟩ = some (.int .i64 kd)
  c2 : w.cell? ⟨d.block, d.off + 2, none⟩ = some (.int .i64 qp)
theorem DrwAt.only {w w' : World} {S : List Nat} {d : Addr} {sb : Nat} {kd qp : Int} (h : DrwAt w d sb kd qp) (ho : Only S w w') (hd : d.block ∉ S) : DrwAt w' d sb kd qp :=
  ⟨h.sp, ho.cell h.c0 hd, ho.cell h.c1 hd, ho.cell h.c2 hd⟩

set_option maxRecDepth 100000 in
set_option maxHeartbeats 1600000 in
theorem re_strength {w : World} {p q : Addr} {s1 : Nat} {k1 q1 i1 i2 : Int} (hp : DrwAt w p s1 k1 q1) (hk : k1 = 0 ∨ k1 = 1 ∨ k1 = 2) (bo : Bool) :
    Calls Tryz.prog 96 #[.agg #[.pointer (some p), .int .i64 i1], .agg #[.pointer (some q), .int .i64 i2], .bool bo] w fun e w' => e = .returned (.int .i64 (if bo then 4 else 3)) ∧ Only [] w w' := by
  obtain ⟨pb, po, ps⟩ := p
  have hps : ps = none := hp.sp
  subst hps
  have c1 : ((w.alloc (.cells #[.pointer (some ⟨pb, po, none⟩), .int .i64 i1] 196)).alloc (.cells #[.pointer (some q), .int .i64 i2] 196)).cell? ⟨pb, po + 1, none⟩ = some (.int .i64 k1) := cell_alloc (cell_alloc hp.c1)
  have OA : Hid (Only [] w ((w.alloc (.cells #[.pointer (some ⟨pb, po, none⟩), .int .i64 i1] 196)).alloc (.cells #[.pointer (some q), .int .i64 i2] 196))) := Lib.hid (((Only.refl [] w).alloc _).alloc _)
  have hw : decide (k1 = 0 ∨ k1 = 1 ∨ k1 = 2) = true := decide_eq_true hk
  clear hp hk
  go_enter Tryz.func96, Tryz.ntmps96
  go_wp2_with fail
  refine (re_within k1 _).mono ?_
  rintro e w' ⟨rfl, rfl⟩
  rw [hw]
  go_wp2_with fail
  refine (ed_strength bo _ _ _ _).mono ?_
  rintro e w' ⟨rfl, rfl⟩
  go_wp2
  all_goals
    go_ret
    exact ⟨rfl, OA.out⟩

set_option maxRecDepth 100000 in
set_option maxHeartbeats 1600000 in
theorem re_qp0 {w : World} {p q : Addr} {s1 s2 : Nat} {k1 k2 i1 i2 : Int} (hp : DrwAt w p s1 k1 0) (hq : DrwAt w q s2 k2 0) (hcq : w.cell? ⟨s2, 25, none⟩ = some (.int .i64 0)) (ch : Bool) :
    Calls Tryz.prog 134 #[.agg #[.pointer (some p), .int .i64 i1], .agg #[.pointer (some q), .int .i64 i2], .bool ch] w fun e w' => e = .returned (.int .i64 0) ∧ Only [] w w' := by
  obtain ⟨pb, po, ps⟩ := p
  obtain ⟨qb, qo, qs⟩ := q
  have hps : ps = none := hp.sp
  have hqs : qs = none := hq.sp
  subst hps hqs
  have c2 : ((w.alloc (.cells #[.pointer (some ⟨pb, po, none⟩), .int .i64 i1] 196)).alloc (.cells #[.pointer (some ⟨qb, qo, none⟩), .int .i64 i2] 196)).cell? ⟨pb, po + 2, none⟩ = some (.int .i64 0) := cell_alloc (cell_alloc hp.c2)
  have d0 : ((w.alloc (.cells #[.pointer (some ⟨pb, po, none⟩), .int .i64 i1] 196)).alloc (.cells #[.pointer (some ⟨qb, qo, none⟩), .int .i64 i2] 196)).cell? ⟨qb, qo, none⟩ = some (.pointer (some ⟨s2, 0, none⟩)) := cell_alloc (cell_alloc hq.c0)
  have d2 : ((w.alloc (.cells #[.pointer (some ⟨pb, po, none⟩), .int .i64 i1] 196)).alloc (.cells #[.pointer (some ⟨qb, qo, none⟩), .int .i64 i2] 196)).cell? ⟨qb, qo + 2, none⟩ = some (.int .i64 0) := cell_alloc (cell_alloc hq.c2)
  have e4 : ((w.alloc (.cells #[.pointer (some ⟨pb, po, none⟩), .int .i64 i1] 196)).alloc (.cells #[.pointer (some ⟨qb, qo, none⟩), .int .i64 i2] 196)).cell? ⟨s2, 25, none⟩ = some (.int .i64 0) := cell_alloc (cell_alloc hcq)
  have OA : Hid (Only [] w ((w.alloc (.cells #[.pointer (some ⟨pb, po, none⟩), .int .i64 i1] 196)).alloc (.cells #[.pointer (some ⟨qb, qo, none⟩), .int .i64 i2] 196))) := Lib.hid (((Only.refl [] w).alloc _).alloc _)
  have p0 : ((w.alloc (.cells #[.pointer (some ⟨pb, po, none⟩), .int .i64 i1] 196)).alloc (.cells #[.pointer (some ⟨qb, qo, none⟩), .int .i64 i2] 196)).cell? ⟨w.heap.size, 0, none⟩ = some (.pointer (some ⟨pb, po, none⟩)) := cells_of (heap_alloc2_old w _ _) 0
  have p1 : ((w.alloc (.cells #[.pointer (some ⟨pb, po, none⟩), .int .i64 i1] 196)).alloc (.cells #[.pointer (some ⟨qb, qo, none⟩), .int .i64 i2] 196)).cell? ⟨w.heap.size + 1, 0, none⟩ = some (.pointer (some ⟨qb, qo, none⟩)) := cells_of (heap_alloc2_new w _ _) 0
  clear hp hq hcq
  cases ch
  all_goals
    go_enter Tryz.func134, Tryz.ntmps134
    go_wp2_with fail
    generalize (w.alloc (.cells #[.pointer (some ⟨pb, po, none⟩), .int .i64 i1] 196)).alloc (.cells #[.pointer (some ⟨qb, qo, none⟩), .int .i64 i2] 196) = w1 at *
    go_quiet (fail)
  · go_wp2
    go_ret
    exact ⟨rfl, OA.out.drewN _⟩
  · rename_i nq
    have p0' : (w1.drewN nq).cell? ⟨w.heap.size, 0, none⟩ = some (.pointer (some ⟨pb, po, none⟩)) := p0
    have p1' : (w1.drewN nq).cell? ⟨w.heap.size + 1, 0, none⟩ = some (.pointer (some ⟨qb, qo, none⟩)) := p1
    have d0' : (w1.drewN nq).cell? ⟨qb, qo, none⟩ = some (.pointer (some ⟨s2, 0, none⟩)) := d0
    have e4' : (w1.drewN nq).cell? ⟨s2, 25, none⟩ = some (.int .i64 0) := e4
    have OB := Lib.hid (OA.out.drewN nq)
    clear p0 p1 c2 d0 d2 e4 OA
    generalize w1.drewN nq = w2 at *
    go_wp2_with fail
    go_quiet ((go_at_call 115; exact Calls.quiet_of_same ((qu_cqp0 _).mono fun _ _ ⟨h1, h2⟩ => ⟨h1, h2.symm⟩)))
    go_wp2
    go_ret
    exact ⟨rfl, OB.out.drewN _⟩
end Go.Proofs.YtcmehedjdfopdaaGreat

namespace Go.Proofs.YtcmehedjdfopdaaGreat
open Go Go.RowKit

set_option maxRecDepth 100000 in
set_option maxHeartbeats 1600000 in
theorem fl_at {w : World} {fb cb ab wide n cap : Nat} (hf : w.cell? ⟨fb, 0, none⟩ = some (.pointer (some ⟨cb, 0, none⟩))) (hw : w.cell? ⟨cb, 0, none⟩ = some (.int .i64 wide)) (ha : w.cell? ⟨cb, 7, none⟩ = some (.slice (some ⟨ab, 0, none⟩) n cap)) (x y i : Nat) (hx : x ≤ 1000) (hy : y ≤ 1000) (hi : i = y / 4 * wide + x / 4) (hn : i < n) (hn2 : n ≤ 3600) :
    Calls Tryz.prog 95 #[.pointer (some ⟨fb, 0, none⟩), .int .i64 x, .int .i64 y] w fun e w' => ∃ k : Int, e = .returned (.agg #[.pointer (some ⟨ab, i * 23, none⟩), .int .i64 k]) ∧ Only [] w w' := by
  obtain ⟨a, ha1⟩ : ∃ a : Nat, a = y / 4 := ⟨_, rfl⟩
  obtain ⟨b, hb1⟩ : ∃ b : Nat, b = x / 4 := ⟨_, rfl⟩
  obtain ⟨c, hc1⟩ : ∃ c : Nat, c = a * wide := ⟨_, rfl⟩
  have hi2 : i = c + b := by rw [hi, hc1, ha1, hb1]
  have q1 : IntKind.i64.wrap ((y : Int) / 4) = (a : Int) := by rw [show (y : Int) / 4 = (a : Int) by omega]; exact i64n _ (by omega)
  have q2 : IntKind.i64.wrap ((a : Int) * (wide : Int)) = (c : Int) := by rw [← Int.natCast_mul, ← hc1]; exact i64n _ (by omega)
  have q3 : IntKind.i64.wrap ((x : Int) / 4) = (b : Int) := by rw [show (x : Int) / 4 = (b : Int) by omega]; exact i64n _ (by omega)
  have q4 : IntKind.i64.wrap ((c : Int) + (b : Int)) = (i : Int) := by rw [← Int.natCast_add, ← hi2]; exact i64n _ (by omega)
  obtain ⟨x1, hx1⟩ : ∃ x1 : Int, x1 = (x : Int).tmod 4 := ⟨_, rfl⟩
  obtain ⟨y1, hy1⟩ : ∃ y1 : Int, y1 = (y : Int).tmod 4 := ⟨_, rfl⟩
  have hx4 : 0 ≤ x1 ∧ x1 < 4 := by rw [hx1, Int.tmod_eq_emod_of_nonneg (by omega)]; omega
  have hy4 : 0 ≤ y1 ∧ y1 < 4 := by rw [hy1, Int.tmod_eq_emod_of_nonneg (by omega)]; omega
  have q5 : (x : Int).tmod 4 = x1 := hx1.symm
  have q6 : (y : Int).tmod 4 = y1 := hy1.symm
  have q7 : x1.tmod 2 = x1 % 2 := Int.tmod_eq_emod_of_nonneg hx4.1
  have q8 : y1.tmod 2 = y1 % 2 := Int.tmod_eq_emod_of_nonneg hy4.1
  have hfb := World.block_lt_of_cell? w _ hf
  have hcb := World.block_lt_of_cell? w _ hw
  simp only at hfb hcb
  obtain ⟨x0, x3⟩ := hx4
  obtain ⟨y0, y3⟩ := hy4
  clear ha1 hb1 hc1 hi2 hi hx1 hy1
  go_enter Tryz.func95, Tryz.ntmps95
  go_wp2_with fail
  go_quiet (fail)
  rename_i nq
  have hA : ((w.alloc (.cells #[.pointer none, .int .i64 0] 196)).drewN nq).heap[w.heap.size]? = some (.cells #[.pointer none, .int .i64 0] 196 (0, 0)) := heap_alloc_at w _
  have HA := Lib.hid hA
  have hO : Only [] w ((w.alloc (.cells #[.pointer none, .int .i64 0] 196)).drewN nq) := ((Only.refl [] w).alloc _).drewN nq
  have HO := Lib.hid hO
  clear hA hO
  go_wp2
  have hi2 : (Tryz.prog.info? 196).map (·.size) = some 2 := by kernel_rfl
  exact ret_cell rfl w.heap.size rfl (heap_set_same (i := 1) _ (heap_set_same (i := 0) _ HA.out)) Tryz.underlying196 rfl hi2 rfl ⟨_, rfl, (HO.out.setCell (p := ⟨w.heap.size, 0, none⟩) (.inr (Nat.le_refl _)) _).setCell (p := ⟨w.heap.size, 1, none⟩) (.inr (Nat.le_refl _)) _⟩
end Go.Proofs.YtcmehedjdfopdaaGreat
