/-
  The walks over package quant: its tables, may, class. The walk over package recon's plane.put: a block is laid down. The walks over package weight's and intra's one-sample functions. The walk over package recon's add: a rest of one value is added to a block of four by four. The walk over package recon's planes.
-/
import Derived.Test.YtcmehedjdfopdaaGreatJ05
import Derived.Test.YtcmehedjdfopdaaGreatJ03
import Derived.Test.YtcmehedjdfopdaaGreatJ02
import Derived.IntWalk
import Derived.Test.YtcmehedjdfopdaaGreatJ04
namespace Go.Proofs.YtcmehedjdfopdaaGreat
open Go.RowKit

def qmL : List Int := [13107, 5243, 8066, 11916, 4660, 7490, 10082, 4194, 6554, 9362, 3647, 5825, 8192, 3355, 5243, 7282, 2893, 4559]
def qvL : List Int := [10, 16, 13, 11, 18, 14, 13, 20, 16, 14, 23, 18, 16, 25, 20, 18, 29, 23]
def qcL : List Int := [29, 30, 31, 32, 32, 33, 34, 34, 35, 35, 36, 36, 37, 37, 37, 38, 38, 38, 39, 39, 39, 39]
def quRest (a b c : List Int) : List Value := (a ++ b ++ c).map (Value.int .i64)
def z18 : List Int := List.replicate 18 0
def z22 : List Int := List.replicate 22 0

set_option maxRecDepth 100000 in
set_option maxHeartbeats 1600000 in
theorem qu_fill (bx tb : Nat) (w : World) (hx : w.heap[bx]? = some (.cells #[.pointer (some ⟨tb, 0, none⟩)] 229 (0, 0)))
    (hb : w.heap[tb]? = some (.cells (onceCells (.int .u32 0) (.int .i32 1) (quRest z18 z18 z22)) 228 (0, 0))) :
    Calls Tryz.prog 158 #[.pointer (some ⟨bx, 0, none⟩)] w fun e w'' => e = .returned (.tuple #[]) ∧ w''.heap[tb]? = some (.cells (onceCells (.int .u32 0) (.int .i32 1) (quRest qmL qvL qcL)) 228 (0, 0)) ∧ Only [tb] w w'' := by
  have c0 : w.cell? ⟨bx, 0, none⟩ = some (.pointer (some ⟨tb, 0, none⟩)) := by rw [cells_of hx]; rfl
  have hne : bx ≠ tb := block_ne hx hb (by decide)
  have Hb := Lib.hid hb
  clear hb hx
  go_enter Tryz.func158, Tryz.ntmps158
  go_wp2_with (refine wpList_store_part rfl _ _ _ rfl tb 3 (ints qmL) rfl rfl Hb.out (by kernel_rfl) (by simp [onceCells, quRest, ints, qmL, z18, z22]) (ints_one _) ?_)
  intro w2 hw2 ho2
  have W2 := Lib.hid (show w2.heap[tb]? = some (.cells (onceCells (.int .u32 0) (.int .i32 1) (quRest qmL z18 z22)) 228 (0, 0)) by rw [hw2]; rfl)
  have O2 := Lib.hid ho2
  have c2 : w2.cell? ⟨bx, 0, none⟩ = some (.pointer (some ⟨tb, 0, none⟩)) := ho2.cell c0 (by simpa using hne)
  clear hw2 ho2 c0
  go_wp2_with (refine wpList_store_part rfl _ _ _ rfl tb 21 (ints qvL) rfl rfl W2.out (by kernel_rfl) (by simp [onceCells, quRest, ints, qmL, qvL, z18, z22]) (ints_one _) ?_)
  intro w3 hw3 ho3
  have W3 := Lib.hid (show w3.heap[tb]? = some (.cells (onceCells (.int .u32 0) (.int .i32 1) (quRest qmL qvL z22)) 228 (0, 0)) by rw [hw3]; rfl)
  have O3 := Lib.hid (O2.out.trans ho3)
  have c3 : w3.cell? ⟨bx, 0, none⟩ = some (.pointer (some ⟨tb, 0, none⟩)) := ho3.cell c2 (by simpa using hne)
  clear hw3 ho3 c2
  go_wp2_with (refine wpList_store_part rfl _ _ _ rfl tb 39 (ints qcL) rfl rfl W3.out (by kernel_rfl) (by simp [onceCells, quRest, ints, qmL, qvL, qcL, z22]) (ints_one _) ?_)
  intro w4 hw4 ho4
  have W4 := Lib.hid (show w4.heap[tb]? = some (.cells (onceCells (.int .u32 0) (.int .i32 1) (quRest qmL qvL qcL)) 228 (0, 0)) by rw [hw4]; rfl)
  have O4 := Lib.hid (O3.out.trans ho4)
  clear hw4 ho4 c3
  go_wp2
  go_end0
  exact ⟨rfl, W4.out, O4.out⟩

set_option maxRecDepth 100000 in
set_option maxHeartbeats 1600000 in
theorem qu_get (tb : Nat) (w : World) (hb : w.heap[tb]? = some (.cells (onceCells (.int .u32 0) (.int .i32 0) (quRest z18 z18 z22)) 228 (0, 0))) :
    Calls Tryz.prog 122 #[.pointer (some ⟨tb, 0, none⟩)] w fun e w' => e = .returned (.pointer (some ⟨tb, 0, none⟩)) ∧ w'.heap[tb]? = some (.cells (onceCells (.int .u32 1) (.int .i32 0) (quRest qmL qvL qcL)) 228 (0, 0)) ∧ Only [tb] w w' := by
  have hlt := lt_of_block hb
  have hmf : ∀ (fn : Fn) (first cap : Array Value) (w : World), (Instr.makeFunc fn first cap).run Tryz.prog w = .ok (.func fn first cap) w := fun _ _ _ _ => rfl
  have hX := heap_alloc_at w (.cells #[.pointer (some ⟨tb, 0, none⟩)] 229)
  have hT := heap_alloc_lt (.cells #[.pointer (some ⟨tb, 0, none⟩)] 229) hb
  have hO : Only [] w (w.alloc (.cells #[.pointer (some ⟨tb, 0, none⟩)] 229)) := (Only.refl [] w).alloc _
  have hdo := once_table 158 #[.pointer (some ⟨w.heap.size, 0, none⟩)] (fun w => run_enter Tryz.func158 (by kernel_rfl) (by kernel_rfl) _ w) _ tb 228 _ (quRest qmL qvL qcL) hT
    (fun w' h1 h2 => qu_fill w.heap.size tb w' (h2.heap hX (by simp; omega)) h1)
  have Hdo := Lib.hid hdo
  have HX := Lib.hid hX
  have HO := Lib.hid hO
  clear hdo hX hT hO hb
  go_enter Tryz.func122, Tryz.ntmps122
  go_wp2_with fail
  refine Hdo.out.mono ?_
  rintro e w1 ⟨rfl, h1, h2⟩
  have W1 := Lib.hid h1
  have c1 : w1.cell? ⟨w.heap.size, 0, none⟩ = some (.pointer (some ⟨tb, 0, none⟩)) := by rw [cells_of (h2.heap HX.out (by simp; omega))]; rfl
  have O1 := Lib.hid ((HO.out.mono (T := [tb]) (by simp)).trans h2)
  clear h1 h2
  go_wp2
  go_ret
  exact ⟨rfl, W1.out, O1.out⟩

/-- A table that was got: the numbers of going back. -/
theorem qu_v {w : World} {tb : Nat} (h : w.heap[tb]? = some (.cells (onceCells (.int .u32 1) (.int .i32 0) (quRest qmL qvL qcL)) 228 (0, 0))) (i : Nat) (hi : i < 18) : w.cell? ⟨tb, 21 + i, none⟩ = some (.int .i64 (qvL.getD i 0)) := by
  rw [cells_of h, show 21 + i = 3 + (18 + i) by omega, onceCells_at]
  have hl : qvL.length = 18 := rfl
  have hm : qmL.length = 18 := rfl
  simp only [quRest, List.map_append]
  rw [List.append_assoc, List.getElem?_append_right (by simp [hm]), List.getElem?_append_left (by simp [hm, hl]; omega)]
  simp [hm, List.getD, List.getElem?_eq_getElem (show i < qvL.length by omega)]

set_option maxHeartbeats 800000 in
theorem qu_may (qp lim : Int) (v : Value) (xs : List Int) (w : World) (hv : IntSlice w v xs) (hl : xs.length ≤ 1000) (hx : ∀ i, i < xs.length → -lim ≤ xs.getD i 0 ∧ xs.getD i 0 ≤ lim) (hl0 : 0 ≤ lim) (hl1 : lim ≤ 1048576) (q0 : 0 ≤ qp) (q1 : qp ≤ 51) :
    Calls Tryz.prog 121 #[.int .i64 qp, v, .int .i64 lim] w fun e w' => e = .returned (.bool true) ∧ w = w' := by
  obtain ⟨ao, cap, rfl, ha⟩ := hv
  obtain ⟨n, hn⟩ : ∃ n, n = xs.length := ⟨_, rfl⟩
  rw [← hn] at hl hx ⊢
  have Ha := Lib.hid ha
  have Hx := Lib.hid hx
  have Hn := Lib.hid hn
  clear ha hx hn
  go_enter Tryz.func121, Tryz.ntmps121
  go_wp2
  go_loop [11] (fun q => ∃ k : Nat, k ≤ n ∧ q = .int .i64 k) (fun q => n - (intOf q).toNat)
  case atStart => exact ⟨0, Nat.zero_le _, rfl⟩
  case round =>
    obtain ⟨k, hk, rfl⟩ := hrel
    by_cases hlt : k < n
    · rcases Ha.out with h | ⟨g, off, rfl, hc⟩
      · have := Hn.out; rw [h] at this; simp at this; omega
      have c1 := hc k (by rw [← Hn.out]; exact hlt)
      obtain ⟨r0, r1⟩ := Hx.out k hlt
      obtain ⟨x, hx⟩ : ∃ x, x = xs.getD k 0 := ⟨_, rfl⟩
      rw [← hx] at c1 r0 r1
      clear hx hc
      go_wp2
      go_round
      case rel => exact ⟨k + 1, by omega, by go_num⟩
      case measure => simp [intOf] <;> omega
    · obtain rfl : k = n := by omega
      go_wp2
      go_ret
      exact ⟨rfl, rfl⟩
end Go.Proofs.YtcmehedjdfopdaaGreat

namespace Go.Proofs.YtcmehedjdfopdaaGreat
open Go.RowKit

def Apart (v : Value) (g : Nat) : Prop := ∀ b o n c, v = .slice (some ⟨b, o, none⟩) n c → b ≠ g
theorem Apart.of_own {w : World} {B k : Nat} {e e2 : TypeId} {xs : List Value} {v : Value} {g : Nat} {cs : Array Value} (h : w.ownsRow B e 1 v k xs) (hg : w.heap[g]? = some (.cells cs e2 (0, 0))) (hne : e ≠ e2) : Apart v g := by
  rintro b o n c rfl
  rcases h.2 with ⟨h1, _⟩ | ⟨g', cap, cur, h1, _, hh, _⟩
  · cases h1
  · injection h1 with h1
    injection h1 with h1
    injection h1 with h1
    subst h1
    exact block_ne hh hg hne
theorem Apart.of_block {w : World} {b o n c g : Nat} {e e2 : TypeId} {cs1 cs : Array Value} (h : w.heap[b]? = some (.cells cs1 e (0, 0))) (hg : w.heap[g]? = some (.cells cs e2 (0, 0))) (hne : e ≠ e2) : Apart (.slice (some ⟨b, o, none⟩) n c) g := by
  rintro b' o' n' c' h1
  injection h1 with h1
  injection h1 with h1
  injection h1 with h1
  subst h1
  exact block_ne h hg hne
theorem u8s_set_app (xs : List Int) (rest : Array Value) (i : Nat) (v : Int) (h : i < xs.length) : (u8s xs ++ rest).setIfInBounds i (.int .u8 v) = u8s (xs.set i v) ++ rest := by
  rw [← u8s_setIf]
  apply Array.ext'
  simp only [Array.toList_setIfInBounds, Array.toList_append]
  rw [List.set_append_left]
  simpa [u8s] using h
theorem PlaneAt.set {w : World} {p g cap pw side : Nat} {pl : List Int} (h : PlaneAt w p g cap pw side pl) (i : Nat) (v : Int) (hi : i < pl.length) (h0 : 0 ≤ v) (h1 : v ≤ 255) : PlaneAt (w.setCell ⟨g, i, none⟩ (.int .u8 v)) p g cap pw side (pl.set i v) := by
  obtain ⟨rest, hr⟩ := h.sm
  refine ⟨?_, ⟨rest, ?_⟩, okPl_set h.ok i v h0 h1⟩
  · rw [List.length_set]
    exact heap_set_other _ h.st (block_ne h.st hr (by decide))
  · rw [← u8s_set_app pl rest i v hi]
    exact heap_set_same _ hr
theorem PlaneAt.free {w : World} {p g cap pw side : Nat} {pl : List Int} (h : PlaneAt w p g cap pw side pl) (i : Nat) : w.frozen? ⟨g, i, none⟩ = false := by
  obtain ⟨rest, hr⟩ := h.sm
  exact free_of hr i
theorem PlaneAt.drew {w : World} {p g cap pw side : Nat} {pl : List Int} (h : PlaneAt w p g cap pw side pl) : PlaneAt w.drew p g cap pw side pl := ⟨h.st, h.sm, h.ok⟩

set_option maxRecDepth 100000 in
set_option maxHeartbeats 1600000 in
theorem plane_put {w : World} {p g cap pw side : Nat} {pl : List Int} (h : PlaneAt w p g cap pw side pl) (x y wd n : Nat) (vb : Value) (block : List Int) (hv : IntSlice w vb block) (ha : Apart vb g) (hbn : block.length = n) (hok : ∀ i, i < n → 0 ≤ block.getD i 0 ∧ block.getD i 0 ≤ 255) (hn : n ≤ 256) (hw0 : 1 ≤ wd) (hx : x ≤ 1000) (hy : y ≤ 1000) (hl : pl.length ≤ 1000000)
    (hin : ∀ k, k < n → spot pw x y wd k < pl.length) :
    Calls Tryz.prog 76 #[.pointer (some ⟨p, 0, none⟩), .int .i64 x, .int .i64 y, .int .i64 wd, vb] w fun e w' => e = .returned (.tuple #[]) ∧ PlaneAt w' p g cap pw side (putTo pw x y wd block pl n) ∧ Only [g] w w' := by
  obtain ⟨ao, capb, rfl, hvv⟩ := hv
  obtain ⟨len, hlen⟩ : ∃ len, len = pl.length := ⟨_, rfl⟩
  rw [← hlen] at hl hin
  have hwz : (wd : Int) ≠ 0 := by omega
  have hwn : wd ≠ 0 := by omega
  have hwb : ((wd : Int) == 0) = false := by simp [hwn]
  rw [hbn]
  have H := Lib.hid h
  have Hv := Lib.hid hvv
  have Ha := Lib.hid ha
  have Hn := Lib.hid hbn
  have Hok := Lib.hid hok
  have Hin := Lib.hid hin
  have Hlen := Lib.hid hlen
  have hpb := lt_of_block h.st
  clear h hvv ha hbn hok hin hlen
  go_enter Tryz.func76, Tryz.ntmps76
  go_wp2
  go_loopw [14] (fun q wr => ∃ k : Nat, k ≤ n ∧ q = .int .i64 k ∧ PlaneAt wr p g cap pw side (putTo pw x y wd block pl k) ∧ Only [g] w wr) (fun q _ => n - (intOf q).toNat)
  case atStart => exact ⟨0, Nat.zero_le _, rfl, H.out, Only.refl _ w⟩
  case round =>
    obtain ⟨k, hk, rfl, hP, ho⟩ := hrel
    by_cases hlt : k < n
    · rcases Hv.out with h | ⟨gb, off, rfl, hc⟩
      · have := Hn.out; rw [h] at this; simp at this; omega
      have hgb : gb ≠ g := Ha.out gb off _ _ rfl
      have s4 : wr.cell? ⟨gb, off + k, none⟩ = some (.int .i64 (block.getD k 0)) := ho.cell (hc k (by rw [Hn.out]; exact hlt)) (by simpa using hgb)
      obtain ⟨v, hv⟩ : ∃ v, v = block.getD k 0 := ⟨_, rfl⟩
      have hvr := Hok.out k hlt
      rw [← hv] at s4 hvr
      have hi := Hin.out k hlt
      obtain ⟨i, hi0⟩ : ∃ i, i = spot pw x y wd k := ⟨_, rfl⟩
      obtain ⟨a, ha⟩ : ∃ a : Nat, a = k / wd := ⟨_, rfl⟩
      obtain ⟨b, hb⟩ : ∃ b : Nat, b = y + a := ⟨_, rfl⟩
      obtain ⟨c, hc0⟩ : ∃ c : Nat, c = b * pw := ⟨_, rfl⟩
      obtain ⟨d, hd0⟩ : ∃ d : Nat, d = c + x := ⟨_, rfl⟩
      obtain ⟨e, he⟩ : ∃ e : Nat, e = k % wd := ⟨_, rfl⟩
      have hi1 : i = d + e := by rw [hi0, hd0, hc0, hb, ha, he]; rfl
      have a1 : a ≤ 256 := by rw [ha]; exact Nat.le_trans (Nat.div_le_self _ _) (by omega)
      have hil : i < len := by rw [hi0]; exact hi
      have q0 : (k : Int) / (wd : Int) = (a : Int) := by rw [ha]; exact (Int.natCast_ediv k wd).symm
      have q0t : (k : Int).tdiv (wd : Int) = (a : Int) := by rw [Int.tdiv_eq_ediv_of_nonneg (by omega)]; exact q0
      have q1 : IntKind.i64.wrap ((k : Int) / (wd : Int)) = (a : Int) := by rw [q0]; exact i64n _ (by omega)
      have q1t : IntKind.i64.wrap ((k : Int).tdiv (wd : Int)) = (a : Int) := by rw [q0t]; exact i64n _ (by omega)
      have q2 : IntKind.i64.wrap ((y : Int) + a) = (b : Int) := by rw [← Int.natCast_add, ← hb]; exact i64n _ (by omega)
      have q3 : IntKind.i64.wrap ((b : Int) * pw) = (c : Int) := by rw [← Int.natCast_mul, ← hc0]; exact i64n _ (by omega)
      have q4 : IntKind.i64.wrap ((c : Int) + x) = (d : Int) := by rw [← Int.natCast_add, ← hd0]; exact i64n _ (by omega)
      have q5 : (k : Int).tmod (wd : Int) = (e : Int) := by rw [Int.tmod_eq_emod_of_nonneg (by omega), he]; exact (Int.natCast_emod k wd).symm
      have q5w : IntKind.i64.wrap ((k : Int).tmod (wd : Int)) = (e : Int) := by rw [q5]; exact i64n _ (by omega)
      have q6 : IntKind.i64.wrap ((d : Int) + e) = (i : Int) := by rw [← Int.natCast_add, ← hi1]; exact i64n _ (by omega)
      have qv : IntKind.u8.wrap v = v := IntWalk.u8_in v hvr
      have hst := hP.st
      rw [putTo_length, ← Hlen.out] at hst
      have s0 : wr.cell? ⟨p, 0, none⟩ = some (.slice (some ⟨g, 0, none⟩) len cap) := by rw [cells_of hst]; rfl
      have s1 : wr.cell? ⟨p, 1, none⟩ = some (.int .i64 pw) := by rw [cells_of hst]; rfl
      have z1 := hP.free i
      have s3 := hP.smp i (by rw [putTo_length, ← Hlen.out]; exact hil)
      have P2 : Hid (PlaneAt (wr.setCell ⟨g, i, none⟩ (.int .u8 v)) p g cap pw side (putTo pw x y wd block pl (k + 1))) := by
        have := hP.set i v (by rw [putTo_length, ← Hlen.out]; exact hil) hvr.1 hvr.2
        rw [hi0, hv] at this
        rw [hi0, hv]
        exact Lib.hid this
      have O2 := Lib.hid (ho.setCell (p := ⟨g, i, none⟩) (.inl (by simp)) (.int .u8 v))
      clear hP hi hi0 ha hb hc0 hd0 he hi1 hv hc ho a1 hst q0 q0t
      generalize (putTo pw x y wd block pl k).getD i 0 = old at *
      go_wp2
      go_still_tail 23, (by kernel_rfl)
      change wpList _ _ _ _ _ wr.drew
      go_wp2
      go_roundw
      case rel => exact ⟨k + 1, by omega, by go_num, P2.out.drew, O2.out.drew⟩
      case measure => simp [intOf] <;> omega
    · obtain rfl : k = n := by omega
      have C2 := Lib.hid hP
      have O2 := Lib.hid ho
      clear hP ho
      go_wp2
      go_end0
      exact ⟨rfl, C2.out, O2.out⟩
end Go.Proofs.YtcmehedjdfopdaaGreat

namespace Go.Proofs.YtcmehedjdfopdaaGreat
open Go.RowKit

theorem wt_clip (v : Int) (w : World) (h0 : -1048576 ≤ v) (h1 : v ≤ 1048576) :
    Calls Tryz.prog 19 #[.int .i64 v] w fun e w' => e = .returned (.int .i64 (clip8 v)) ∧ w = w' := by
  go_enter Tryz.func19, Tryz.ntmps19
  go_wp2 <;> go_ret <;> exact ⟨ret_int (by unfold clip8; omega), rfl⟩

theorem intra_clip (v : Int) (w : World) (h0 : -1048576 ≤ v) (h1 : v ≤ 1048576) :
    Calls Tryz.prog 135 #[.int .i64 v] w fun e w' => e = .returned (.int .i64 (clip8 v)) ∧ w = w' := by
  go_enter Tryz.func135, Tryz.ntmps135
  go_wp2 <;> go_ret <;> exact ⟨ret_int (by unfold clip8; omega), rfl⟩
end Go.Proofs.YtcmehedjdfopdaaGreat

namespace Go.Proofs.YtcmehedjdfopdaaGreat
open Go.RowKit

theorem getD_rep (n : Nat) (c : Int) (i : Nat) (h : i < n) : (List.replicate n c).getD i 0 = c := by
  simp only [List.getD, List.getElem?_replicate, if_pos h, Option.getD_some]

set_option maxRecDepth 100000 in
set_option maxHeartbeats 1600000 in
theorem recon_add {w : World} {p g cap pw side : Nat} {pl : List Int} (h : PlaneAt w p g cap pw side pl) (x y : Nat) (d : Int) (d0 : -1048576 ≤ d) (d1 : d ≤ 1048576) (hx : x ≤ 1000) (hy : y ≤ 1000) (hl : pl.length ≤ 1000000)
    (hin : ∀ k, k < 16 → spot pw x y 4 k < pl.length) :
    Calls Tryz.prog 107 #[.pointer (some ⟨p, 0, none⟩), .int .i64 x, .int .i64 y, .agg (ints (dcL d))] w fun e w' => e = .returned (.tuple #[]) ∧ PlaneAt w' p g cap pw side (addTo pw x y (List.replicate 16 ((d + 32) / 64)) pl 16) ∧ Only [g] w w' := by
  obtain ⟨len, hlen⟩ : ∃ len, len = pl.length := ⟨_, rfl⟩
  rw [← hlen] at hl hin
  obtain ⟨r, hr⟩ : ∃ r, r = (d + 32) / 64 := ⟨_, rfl⟩
  have hr2 : -16384 ≤ r ∧ r ≤ 16384 := by omega
  have hinv := fun w => xf_inv d w d0 d1
  rw [← hr] at hinv ⊢
  have hsz : (ints (dcL d)).size = 16 := by rw [ints_size, dcL_length]
  have hs1 : (ints (dcL d)).all (·.oneCell') = true := ints_one _
  obtain ⟨Z, hZ⟩ : ∃ Z, Z = ints (dcL d) := ⟨_, rfl⟩
  rw [← hZ] at hinv hsz hs1 ⊢
  have H := Lib.hid h
  have Hin := Lib.hid hin
  have Hlen := Lib.hid hlen
  have Hinv := Lib.hid hinv
  have Hsz := Lib.hid hsz
  have Hs1 := Lib.hid hs1
  have hpb := lt_of_block h.st
  clear h hin hlen hinv hsz hs1 hZ hr
  go_enter Tryz.func107, Tryz.ntmps107
  have B1 := Lib.hid (heap_alloc_at w (.cells Z 36))
  have O1 : Hid (Only [] w (w.alloc (.cells Z 36))) := Lib.hid ((Only.refl [] w).alloc _)
  go_wp2_with (with_reducible refine wpList_load_row rfl _ _ rfl _ rfl _ _ _ _ B1.out Tryz.underlying36 rfl (by rw [Hsz.out]; kernel_rfl) ?_)
  refine (Hinv.out _).mono ?_
  rintro e w1 ⟨rfl, g1⟩
  have O2 := Lib.hid (O1.out.trans g1)
  clear g1 B1 O1 Hinv Hsz Hs1
  obtain ⟨R, hR⟩ : ∃ R, R = ints (List.replicate 16 r) := ⟨_, rfl⟩
  rw [← hR]
  have HR := Lib.hid hR
  clear hR
  go_wp2
  go_loopw [13] (fun q wr => ∃ k : Nat, k ≤ 16 ∧ q = .int .i64 k ∧ PlaneAt wr p g cap pw side (addTo pw x y (List.replicate 16 r) pl k) ∧ Only [g] w wr) (fun q _ => 16 - (intOf q).toNat)
  case atStart => exact ⟨0, Nat.zero_le _, rfl, H.out.only O2.out (by simp) (by simp), O2.out.mono (by simp)⟩
  case round =>
    obtain ⟨k, hk, rfl, hP, ho⟩ := hrel
    by_cases hlt : k < 16
    · have hidx : ∀ w : World, (Instr.index 36 (.agg R) (.int .i64 (k : Int))).run Tryz.prog w = .ok (.int .i64 r) w := fun w => by
        have := run_index_ints (P := Tryz.prog) 36 3 16 (List.replicate 16 r) k w Tryz.underlying36 Tryz.underlying3 (by kernel_rfl) (by simp) hlt
        rw [getD_rep 16 r k hlt] at this
        rw [HR.out]
        exact this
      have hi := Hin.out k hlt
      obtain ⟨i, hi0⟩ : ∃ i, i = spot pw x y 4 k := ⟨_, rfl⟩
      obtain ⟨a, ha⟩ : ∃ a : Nat, a = k / 4 := ⟨_, rfl⟩
      obtain ⟨b, hb⟩ : ∃ b : Nat, b = y + a := ⟨_, rfl⟩
      obtain ⟨c, hc0⟩ : ∃ c : Nat, c = b * pw := ⟨_, rfl⟩
      obtain ⟨e, he⟩ : ∃ e : Nat, e = c + x := ⟨_, rfl⟩
      obtain ⟨m, hm⟩ : ∃ m : Nat, m = k % 4 := ⟨_, rfl⟩
      have hi1 : i = e + m := by rw [hi0, he, hc0, hb, ha, hm]; rfl
      have hil : i < len := by rw [hi0]; exact hi
      have q1 : IntKind.i64.wrap ((k : Int) / 4) = (a : Int) := by rw [show (k : Int) / 4 = (a : Int) by omega]; exact i64n _ (by omega)
      have q2 : IntKind.i64.wrap ((y : Int) + a) = (b : Int) := by rw [← Int.natCast_add, ← hb]; exact i64n _ (by omega)
      have q3 : IntKind.i64.wrap ((b : Int) * pw) = (c : Int) := by rw [← Int.natCast_mul, ← hc0]; exact i64n _ (by omega)
      have q4 : IntKind.i64.wrap ((c : Int) + x) = (e : Int) := by rw [← Int.natCast_add, ← he]; exact i64n _ (by omega)
      have q5 : (k : Int).tmod 4 = (m : Int) := by rw [Int.tmod_eq_emod_of_nonneg (by omega)]; omega
      have q6 : IntKind.i64.wrap ((e : Int) + m) = (i : Int) := by rw [← Int.natCast_add, ← hi1]; exact i64n _ (by omega)
      have hst := hP.st
      rw [addTo_length, ← Hlen.out] at hst
      have s0 : wr.cell? ⟨p, 0, none⟩ = some (.slice (some ⟨g, 0, none⟩) len cap) := by rw [cells_of hst]; rfl
      have s1 : wr.cell? ⟨p, 1, none⟩ = some (.int .i64 pw) := by rw [cells_of hst]; rfl
      have z1 := hP.free i
      have s3 := hP.smp i (by rw [addTo_length, ← Hlen.out]; exact hil)
      obtain ⟨old, hold⟩ : ∃ old, old = (addTo pw x y (List.replicate 16 r) pl k).getD i 0 := ⟨_, rfl⟩
      have hor : 0 ≤ old ∧ old ≤ 255 := by rw [hold]; exact hP.ok i
      rw [← hold] at s3
      obtain ⟨nv, hnv⟩ : ∃ nv, nv = clip8 (old + r) := ⟨_, rfl⟩
      have hnr : 0 ≤ nv ∧ nv ≤ 255 := by rw [hnv]; exact clip8_range _
      have hcl := fun w => wt_clip (old + r) w (by omega) (by omega)
      rw [← hnv] at hcl
      have Hcl := Lib.hid hcl
      have qv : IntKind.u8.wrap nv = nv := IntWalk.u8_in nv hnr
      have P2 : Hid (PlaneAt (wr.setCell ⟨g, i, none⟩ (.int .u8 nv)) p g cap pw side (addTo pw x y (List.replicate 16 r) pl (k + 1))) := by
        have h1 := hP.set i nv (by rw [addTo_length, ← Hlen.out]; exact hil) hnr.1 hnr.2
        have h2 : addTo pw x y (List.replicate 16 r) pl (k + 1) = (addTo pw x y (List.replicate 16 r) pl k).set i nv := by
          rw [addTo, ← hi0, ← hold, hnv, getD_rep 16 r k hlt]
        rw [h2]
        exact Lib.hid h1
      have O3 := Lib.hid (ho.setCell (p := ⟨g, i, none⟩) (.inl (by simp)) (.int .u8 nv))
      have P1 : Hid (PlaneAt wr p g cap pw side (addTo pw x y (List.replicate 16 r) pl k)) := Lib.hid hP
      clear hP hi hi0 ha hb hc0 he hm hi1 hnv hold ho hst hcl
      go_wp2
      go_still_tail 19, (by kernel_rfl)
      change wpList _ _ _ _ _ wr.drew
      go_wp2_with fail
      refine (Hcl.out _).mono ?_
      rintro e w8 ⟨rfl, rfl⟩
      go_wp2
      go_roundw
      case rel => exact ⟨k + 1, by omega, by go_num, P2.out.drew, O3.out.drew⟩
      case measure => simp [intOf] <;> omega
    · obtain rfl : k = 16 := by omega
      have C2 := Lib.hid hP
      have O3 := Lib.hid ho
      clear hP ho
      go_wp2
      go_end0
      exact ⟨rfl, C2.out, O3.out⟩
end Go.Proofs.YtcmehedjdfopdaaGreat

namespace Go.Proofs.YtcmehedjdfopdaaGreat
open Go.RowKit

/-- The three planes of a frame, as a value. -/
def planesV (W : Int) (y u v : Value) : Array Value := #[y, .int .i64 W, .int .i64 16, u, .int .i64 (W / 2), .int .i64 8, v, .int .i64 (W / 2), .int .i64 8]

theorem planesV_one (W : Int) (a1 a2 a3 : Option Addr) (n1 n2 n3 c1 c2 c3 : Nat) : (planesV W (.slice a1 n1 c1) (.slice a2 n2 c2) (.slice a3 n3 c3)).all (·.oneCell') = true := by simp [planesV, Value.oneCell']

set_option maxRecDepth 100000 in
set_option maxHeartbeats 1600000 in
theorem recon_planes (fb o : Nat) (W : Nat) (y u v : Value) (w : World) (hW : w.cell? ⟨fb, o, none⟩ = some (.int .i64 W)) (hy : w.cell? ⟨fb, o + 2, none⟩ = some y) (hu : w.cell? ⟨fb, o + 3, none⟩ = some u) (hv : w.cell? ⟨fb, o + 4, none⟩ = some v) (hW1 : W ≤ 100000)
    (ys : ∃ a n c, y = .slice a n c) (us : ∃ a n c, u = .slice a n c) (vs : ∃ a n c, v = .slice a n c) :
    Calls Tryz.prog 43 #[.pointer (some ⟨fb, o, none⟩)] w fun e w' => e = .returned (.agg (planesV W y u v)) ∧ Only [] w w' := by
  obtain ⟨a1, n1, c1, rfl⟩ := ys
  obtain ⟨a2, n2, c2, rfl⟩ := us
  obtain ⟨a3, n3, c3, rfl⟩ := vs
  have e1 : IntKind.i64.wrap ((W : Int) / 2) = (W : Int) / 2 := i64w _ (by omega) (by omega)
  have hi9 : (Tryz.prog.info? 118).map (·.size) = some 9 := by kernel_rfl
  have hfb := World.block_lt_of_cell? w _ hW
  simp only at hfb
  go_enter Tryz.func43, Tryz.ntmps43
  go_wp2
  have k0 := cell_alloc (o := (.cells #[.slice none 0 0, .int .i64 0, .int .i64 0, .slice none 0 0, .int .i64 0, .int .i64 0, .slice none 0 0, .int .i64 0, .int .i64 0] 118)) hW
  have k2 := cell_alloc (o := (.cells #[.slice none 0 0, .int .i64 0, .int .i64 0, .slice none 0 0, .int .i64 0, .int .i64 0, .slice none 0 0, .int .i64 0, .int .i64 0] 118)) hy
  have k3 := cell_alloc (o := (.cells #[.slice none 0 0, .int .i64 0, .int .i64 0, .slice none 0 0, .int .i64 0, .int .i64 0, .slice none 0 0, .int .i64 0, .int .i64 0] 118)) hu
  have k4 := cell_alloc (o := (.cells #[.slice none 0 0, .int .i64 0, .int .i64 0, .slice none 0 0, .int .i64 0, .int .i64 0, .slice none 0 0, .int .i64 0, .int .i64 0] 118)) hv
  have C1 := Lib.hid (heap_alloc_at w (.cells #[.slice none 0 0, .int .i64 0, .int .i64 0, .slice none 0 0, .int .i64 0, .int .i64 0, .slice none 0 0, .int .i64 0, .int .i64 0] 118))
  have O1 : Hid (Only [] w (w.alloc (.cells #[.slice none 0 0, .int .i64 0, .int .i64 0, .slice none 0 0, .int .i64 0, .int .i64 0, .slice none 0 0, .int .i64 0, .int .i64 0] 118))) := Lib.hid ((Only.refl [] w).alloc _)
  generalize w.alloc (.cells #[.slice none 0 0, .int .i64 0, .int .i64 0, .slice none 0 0, .int .i64 0, .int .i64 0, .slice none 0 0, .int .i64 0, .int .i64 0] 118) = w1 at *
  clear hW hy hu hv
  go_still_tail 30, (by kernel_rfl)
  change wpList _ _ _ _ _ w1.drew
  refine wpList_store_agg rfl _ _ _ rfl _ (planesV W (.slice a1 n1 c1) (.slice a2 n2 c2) (.slice a3 n3 c3)) rfl rfl (show w1.drew.heap[w.heap.size]? = _ from C1.out) hi9 rfl (planesV_one _ _ _ _ _ _ _ _ _ _) ?_
  intro w8 hw8 ho8
  have W8 := Lib.hid hw8
  have O8 := Lib.hid (O1.out.drew.trans' ho8 (by simp))
  clear hw8 ho8
  go_wp2
  exact ret_cell rfl _ rfl W8.out Tryz.underlying118 rfl hi9 rfl ⟨rfl, O8.out⟩
end Go.Proofs.YtcmehedjdfopdaaGreat
